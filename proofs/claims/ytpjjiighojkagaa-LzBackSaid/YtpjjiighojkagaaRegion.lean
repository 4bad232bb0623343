/- Regions that draw their order: what follows behind a letter; a stronger condition on the way; append of two rows at an operation. -/
import Derived.Test.YtpjjiighojkagaaSame
import Derived.Deep.RegionHeld3
set_option linter.unusedVariables false
set_option linter.unusedSimpArgs false
namespace Go
theorem Proofs.Ytpjjiighojkagaa.wpAnyH_mono {P : Program} {md : Region.Mode} {ops : Array Oper} {Q : Exit → Act → World → Prop} {S S' : World → Prop} (hS : ∀ w, S' w → S w) :
    ∀ (fuel : Nat) (listed : Array Bool) (a : Act) (w : World), wpAnyH P md ops Q S' fuel listed a w → wpAnyH P md ops Q S fuel listed a w
  | 0, _, _, _, h => h
  | fuel + 1, _, _, _, h => ⟨h.1, fun i hi => wpOp_mono (fun a' w' h' => ⟨hS _ h'.1, Proofs.Ytpjjiighojkagaa.wpAnyH_mono hS fuel _ a' w' h'.2⟩) (h.2 i hi)⟩
/-- The beginning of a region that draws its order, what follows it behind a letter. -/
theorem Proofs.Ytpjjiighojkagaa.wp_region_gen {id : Nat} {ops : Array Oper} {P : Program} {Q : Exit → Act → World → Prop} {S : World → Prop} {a : Act} {w : World} (hm : P.follows .mixedOrders = true) (hP : ∀ c (a : Act) (t : Tmp) v w, Q (.panic c) (a.put (some t) v) w → Q (.panic c) a w)
    (h : ∀ Q' : Exit → Act → World → Prop, RowKit.Hid (∀ c (a : Act) (t : Tmp) v w, Q' (.panic c) (a.put (some t) v) w → Q' (.panic c) a w) → RowKit.Hid (∀ a w, Q .normal a w → Q' .normal a w) → wpAnyH P .any ops Q' S ops.size (Array.replicate ops.size false) a { w with drawn := w.drawn + 1 }) :
    (Code.region id ops true).wp P Q a w :=
  wp_region_held hm (h Q hP (fun _ _ h => h))
end Go
namespace Go.Proofs.Ytpjjiighojkagaa
open Go.RowKit Go.Proofs.YtpjjiighojkagaaW.PrintWords

theorem wp_append_owns {P : Program} {W : World} {o : Oper} {a : Act} {Q : Exit → Act → World → Prop} {K : Act → World → Prop} (base base2 : Nat) (s x : Operand) (t e : TypeId) (z : Value) (size bytes : Nat)
    (ho : o.op = .call { callee := .builtin .append, args := #[s, x], argTypes := #[t, t] })
    (ht : P.underlying t = some (.slice e)) (hinfo : (P.info? e).map (fun i => (i.zero, i.size, i.bytes)) = some (some z, size, bytes)) (hz : z.cells.size = size) (hs0 : 0 < size) (hb0 : 0 < bytes)
    (v v2 : Value) (n m : Nat) (xs ys : List Value) (hs : a.eval s = v) (hx : a.eval x = v2)
    (HO : W.ownsRow base e size v n xs) (H2 : W.ownsRow base2 e size v2 m ys) (h1 : ∀ u ∈ ys, u.oneCell' = true) (hbase : base ≤ W.heap.size) (hl : (n + m) * bytes ≤ 140737488355328)
    (h : ∀ v1 w1, w1.ownsRow base e size v1 (n + m) (xs ++ ys) → W.grownBy w1 v.ownBlock → K (a.put o.dst v1) w1) :
    Oper.wp P o a W K Q := by
  obtain ⟨i0, hi, hzz⟩ := Option.map_eq_some_iff.1 hinfo
  simp only [Prod.mk.injEq] at hzz
  obtain ⟨hz0, hz1, hz2⟩ := hzz
  have hlen : n + m ≤ 140737488355328 := Nat.le_trans (Nat.le_mul_of_pos_right _ hb0) hl
  have hrun : ∃ v1 w1, (Builtin.append_ #[t, t] o.type #[v, v2]).run P W = .ok v1 w1 ∧ w1.ownsRow base e size v1 (n + m) (xs ++ ys) ∧ W.grownBy w1 v.ownBlock := by
    rcases H2.2 with ⟨rfl, rfl⟩ | ⟨g, cap, cur, rfl, _⟩
    · obtain rfl : ys = [] := List.eq_nil_of_length_eq_zero (by have := H2.1; omega)
      refine ⟨v, W, ?_, by simpa using HO, World.grownBy.refl W _⟩
      rcases HO.2 with ⟨rfl, hn⟩ | ⟨g, cap, cur, rfl, _, _, hnc, _⟩
      · simp [Builtin.append_, run_underlying ht, sizeOf, typeInfo, hi, Builtin.lenOf, Builtin.firstCells]
      · simp [Builtin.append_, run_underlying ht, sizeOf, typeInfo, hi, Builtin.lenOf, Builtin.firstCells, hnc, storeCells]
    · have hcells : ∀ j u, ys[j]? = some u → W.cell? ((⟨g, 0, none⟩ : Addr).add j) = some u := by
        intro j u hu
        rw [add_plain, H2.cellAt j (by have := (List.getElem?_eq_some_iff.1 hu).1; rw [← H2.1]; exact this)]
        exact hu
      obtain ⟨v1, w1, hr, h2, h3, _, h5⟩ := run_append_own_at (P := P) W base t o.type e i0 z size bytes ht hi hz0 hz1 hz2 hz hs0 v n xs HO ⟨g, 0, none⟩ m cap ys H2.1 hcells
        h1 (by simp only [maxLen]; omega) hl hbase
      exact ⟨v1, w1, hr, h2, h3⟩
  obtain ⟨v1, w1, hr, hown, hg⟩ := hrun
  unfold Oper.wp execOp
  simp only [ho, resolve, invoke, builtin, Sem.run_bind, Sem.run_pure, Result.andThen_ok, List.map_toArray, List.map_cons, List.map_nil, hs, hx, hr]
  exact h v1 w1 hown hg

theorem zero_list (m : Nat) : (Builtin.zeroCells (Value.int .u8 0).cells m).toList = nums .u8 (List.replicate m 0) := by
  apply List.ext_getElem
  · simp [Builtin.zeroCells, nums, Value.cells]
  · intro i h1 h2
    simp [Builtin.zeroCells, nums, Value.cells, Nat.mod_one]

/-- append(b, make([]byte, m)...) where there is no room: a new row. -/
theorem run_zeros_grow {P : Program} (w : World) (t ti ty e : TypeId) {i : TypeInfo} (ht : P.underlying t = some (.slice e)) {k : IntKind} (hti : P.underlying ti = some (.int k)) (hi : P.info? e = some i) (hz : i.zero = some (.int .u8 0)) (hs1 : i.size = 1) (hb1 : i.bytes = 1)
    (b : Addr) (n cap : Nat) (xs : List Value) (hxl : xs.length = n) (hcs : ∀ j u, xs[j]? = some u → w.cell? (b.add j) = some u) (kx : IntKind) (m : Nat) (hm : 0 < m) (hcap : cap < n + m) (hl : n + m ≤ 140737488355328) :
    ∃ v' w', (Builtin.append_ #[t, ti] ty #[.slice (some b) n cap, .int kx m]).run P w = .ok v' w' ∧ w'.ownsRow w.heap.size e 1 v' (n + m) (xs ++ nums .u8 (List.replicate m 0)) ∧ w.grownBy w' none := by
  have h63 : n + m ≤ maxLen := by simp only [maxLen]; omega
  have hw : IntKind.i64.wrap (m : Int) = m := by rw [IntKind.wrap_i64]; omega
  have hneg : ¬ ((m : Int) < 0) := by omega
  have hbig : ¬ (281474976710656 < (m : Int) * (i.bytes : Int)) := by rw [hb1]; omega
  have hn : ¬ (n + m ≤ cap) := by omega
  have h63' : ¬ (9223372036854775807 < ((n : Int) + (m : Int))) := by omega
  have hfit := growslice_fits (bytes := 1) hcap (by omega)
  have h48' : ¬ (281474976710656 < Builtin.nextslicecap (n + m) cap * i.bytes) := by rw [hb1]; omega
  have hmz : ¬ (m * i.size = 0) := by rw [hs1]; omega
  have hfo := run_firstCells_some (P := P) w.drew i.size n b n cap xs (by rw [hs1]; omega) (by simpa using hcs)
  have hge := grownCap_ge w (n + m) cap e
  have hcm : grownCap w (n + m) cap e ≤ maxLen := grownCap_le_maxLen w (n + m) cap e h63
  obtain ⟨news, hnews⟩ : ∃ news, news = nums .u8 (List.replicate m 0) := ⟨_, rfl⟩
  have hna : Builtin.zeroCells (Value.int .u8 0).cells m = news.toArray := by
    apply Array.ext'
    rw [zero_list, hnews]
  have hnl : news.length = m := by rw [hnews]; simp [nums]
  rw [← hnews]
  refine ⟨.slice (some ⟨w.heap.size, 0, none⟩) (n + m) (grownCap w (n + m) cap e), w.drew.alloc (.cells (xs.toArray ++ news.toArray ++ Builtin.zeroCells (Value.int .u8 0).cells (grownCap w (n + m) cap e - (n + m))) e), ?_, ⟨by rw [List.length_append]; omega, .inr ⟨w.heap.size, _, _, rfl, Nat.le_refl _, heap_alloc_new w.drew _, hge, hcm, ?_, ?_⟩⟩, ⟨rfl, rfl, rfl, by simp, fun k hk _ => heap_alloc_old w.drew _ hk⟩⟩
  · simp [Builtin.append_, run_underlying ht, run_underlying hti, sizeOf, typeInfo, zeroValue, hi, hz, asInt, asIntOf, hw, hneg, hbig, hn, h63', h48', Question.forced, hfo, newRow, grownCap, hmz, hna]
    congr 2
    apply Array.ext'
    simp [List.append_assoc]
  · simp only [Array.size_append, List.size_toArray, size_zeroCells, hxl, hnl]
    simp [Value.cells]
    omega
  · simp only [Array.toList_append, List.append_assoc]
    rw [← List.append_assoc, show (n + m) * 1 = (xs ++ news).length from by rw [List.length_append]; omega]
    exact List.take_left
theorem wpList_zeros_grow {P : Program} {w : World} {ops : Array Oper} {rest : List Oper} {o : Oper} {a : Act} {Q : Exit → Act → World → Prop} (hgd : o.guard = none) (s x : Operand) (t ti e : TypeId)
    (ho : o.op = .call { callee := .builtin .append, args := #[s, x], argTypes := #[t, ti] })
    (ht : P.underlying t = some (.slice e)) {k : IntKind} (hti : P.underlying ti = some (.int k)) (hinfo : (P.info? e).map (fun i => (i.zero, i.size, i.bytes)) = some (some (.int .u8 0), 1, 1))
    (b : Addr) (n cap : Nat) (xs : List Value) (hxl : xs.length = n) (hcs : ∀ j u, xs[j]? = some u → w.cell? (b.add j) = some u) (kx : IntKind) (m : Nat) (hs : a.eval s = .slice (some b) n cap) (hx : a.eval x = .int kx m) (hm : 0 < m) (hcap : cap < n + m) (hl : n + m ≤ 140737488355328)
    (h : ∀ v1 w1, w1.ownsRow w.heap.size e 1 v1 (n + m) (xs ++ nums .u8 (List.replicate m 0)) → w.grownBy w1 none → wpList P ops Q rest (a.put o.dst v1) w1) :
    wpList P ops Q (o :: rest) a w := by
  obtain ⟨i0, hi, hzz⟩ := Option.map_eq_some_iff.1 hinfo
  simp only [Prod.mk.injEq] at hzz
  obtain ⟨hz0, hz1, hz2⟩ := hzz
  obtain ⟨v1, w1, hr, hown, hg⟩ := run_zeros_grow (P := P) w t ti o.type e ht hti hi hz0 hz1 hz2 b n cap xs hxl hcs kx m hm hcap hl
  refine wpList_plain hgd fun K hK => ?_
  unfold Oper.wp execOp
  simp only [ho, resolve, invoke, builtin, Sem.run_bind, Sem.run_pure, Result.andThen_ok, List.map_toArray, List.map_cons, List.map_nil, hs, hx, hr]
  exact hK _ _ (h v1 w1 hown hg)

end Go.Proofs.Ytpjjiighojkagaa
