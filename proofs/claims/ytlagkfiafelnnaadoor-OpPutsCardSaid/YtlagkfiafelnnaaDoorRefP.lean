/- The document's Put. -/
import Derived.Test.YtlagkfiafelnnaaDoorRefN
import Derived.Test.YtlagkfiafelnnaaDoorOpPut
import Derived.Test.YtlagkfiafelnnaaDoorWhole
set_option linter.unusedVariables false
set_option linter.unusedSimpArgs false
namespace Go.Proofs.YtlagkfiafelnnaaDoor
open Go.RowKit Go.Proofs.YtlagkfiafelnnaaDoorW.PrintWords

theorem wp_append_row {P : Program} {o : Oper} {a : Act} {Q : Exit → Act → World → Prop} {K : Act → World → Prop} {w0 W : World} (base : Nat) (s x : Operand) (t e : TypeId) (k : IntKind) (bytes : Nat)
    (ho : o.op = .call { callee := .builtin .append, args := #[s, x], argTypes := #[t, t] })
    (ht : P.underlying t = some (.slice e)) (hinfo : (P.info? e).map (fun i => (i.zero, i.size, i.bytes)) = some (some (.int k 0), 1, bytes)) (hb0 : 0 < bytes)
    (v : Value) (xs ys : List Int) (A : Option Addr) (m c : Nat) (hs : a.eval s = v) (hx : a.eval x = .slice A m c)
    (HO : W.ownsRow base e 1 v xs.length (nums k xs)) (HR : ReadsInt W k A m ys) (HB : Below base w0 W) (hbase : base ≤ W.heap.size) (hl : (xs.length + m) * bytes ≤ 140737488355328)
    (h : ∀ v1 w1, w1.ownsRow base e 1 v1 (xs ++ ys).length (nums k (xs ++ ys)) → Below base w0 w1 → W.grownBy w1 v.ownBlock → (v1.ownBlock = v.ownBlock ∨ ∃ b, v1.ownBlock = some b ∧ W.heap.size ≤ b) → K (a.put o.dst v1) w1) :
    Oper.wp P o a W K Q := by
  obtain ⟨i0, hi, hzz⟩ := Option.map_eq_some_iff.1 hinfo
  simp only [Prod.mk.injEq] at hzz
  obtain ⟨hz0, hz1, hz2⟩ := hzz
  have hm : ys.length = m := HR.1
  have hlen : xs.length + m ≤ 140737488355328 := Nat.le_trans (Nat.le_mul_of_pos_right _ hb0) hl
  have hrun : ∃ v1 w1, (Builtin.append_ #[t, t] o.type #[v, .slice A m c]).run P W = .ok v1 w1 ∧ w1.ownsRow base e 1 v1 (xs ++ ys).length (nums k (xs ++ ys)) ∧ W.grownBy w1 v.ownBlock ∧ (v1.ownBlock = v.ownBlock ∨ v1.ownBlock = some W.heap.size) := by
    rcases A with _ | ad
    · have h0 : m = 0 := by
        rcases Nat.eq_zero_or_pos m with h0 | h0
        · exact h0
        · obtain ⟨ad, h, _⟩ := HR.2.2 h0
          cases h
      subst h0
      obtain rfl : ys = [] := List.eq_nil_of_length_eq_zero hm
      refine ⟨v, W, ?_, by simpa using HO, World.grownBy.refl W _, .inl rfl⟩
      rcases HO.2 with ⟨rfl, hn⟩ | ⟨g, cap, cur, rfl, _, _, hnc, _⟩
      · simp [Builtin.append_, run_underlying ht, sizeOf, typeInfo, hi, Builtin.lenOf, Builtin.firstCells]
      · simp [Builtin.append_, run_underlying ht, sizeOf, typeInfo, hi, Builtin.lenOf, Builtin.firstCells, hnc, storeCells]
    · have hcells : ∀ j u, (nums k ys)[j]? = some u → W.cell? (ad.add j) = some u := by
        intro j u hu
        have hj : j < ys.length := by
          rcases Nat.lt_or_ge j ys.length with h | h
          · exact h
          · simp [nums, List.getElem?_eq_none h] at hu
        obtain ⟨ad', h', hc⟩ := HR.2.2 (by omega)
        injection h' with h'
        subst h'
        have := hc j (by omega)
        simp [nums, List.getElem?_eq_getElem hj] at hu
        subst hu
        rw [this]
        simp [List.getD_eq_getElem?_getD, List.getElem?_eq_getElem hj]
      obtain ⟨v1, w1, hr, h2, h3, _, h5⟩ := run_append_own_at (P := P) W base t o.type e i0 (.int k 0) 1 bytes ht hi hz0 hz1 hz2 rfl (by omega) v xs.length (nums k xs) HO ad m c (nums k ys) (by simp [nums, hm]) hcells
        (by intro u hu; simp only [nums, List.mem_map] at hu; obtain ⟨q, _, rfl⟩ := hu; rfl) (by simp only [maxLen]; omega) hl hbase
      exact ⟨v1, w1, hr, by simpa [nums, hm] using h2, h3, h5⟩
  obtain ⟨v1, w1, hr, hown, hg, hat⟩ := hrun
  unfold Oper.wp execOp
  simp only [ho, resolve, invoke, builtin, Sem.run_bind, Sem.run_pure, Result.andThen_ok, List.map_toArray, List.map_cons, List.map_nil, hs, hx, hr]
  refine h v1 w1 hown (HB.grown hg hbase (own_base HO)) hg ?_
  rcases hat with hat | hat
  · exact .inl hat
  · exact .inr ⟨_, hat, Nat.le_refl _⟩

/-- The row v holds the bytes l; what stood in W1 ahead of B + 1 stands. -/
structure PB (B : Nat) (W1 : World) (l : List Int) (v : Value) (w : World) : Prop where
  bel : Below (B + 1) W1 w
  own : w.ownsRow (B + 1) 5 1 v l.length (nums .u8 l)
theorem PB.size {B : Nat} {W1 w : World} {l : List Int} {v : Value} (h : PB B W1 l v w) (h1 : B + 1 ≤ W1.heap.size) : B + 1 ≤ w.heap.size := Nat.le_trans h1 h.bel.size
theorem PB.call {B : Nat} {W1 w w' : World} {l : List Int} {v : Value} (h : PB B W1 l v w) (h1 : B + 1 ≤ W1.heap.size) (q : Below w.heap.size w w') : PB B W1 l v w' := ⟨h.bel.trans (q.mono (h.size h1)), pw_own_below h.own q⟩
theorem PB.alloc {B : Nat} {W1 w : World} {l : List Int} {v : Value} (h : PB B W1 l v w) (h1 : B + 1 ≤ W1.heap.size) (o : Obj) : PB B W1 l v (w.alloc o) := h.call h1 ((Below.refl _ _).alloc (Nat.le_refl _) _)
theorem PB.drew {B : Nat} {W1 w : World} {l : List Int} {v : Value} (h : PB B W1 l v w) (d : Nat) : PB B W1 l v (w.drewN d) := ⟨⟨h.bel.os, h.bel.tape, h.bel.output, h.bel.size, h.bel.block⟩, h.own⟩
theorem PB.app {B : Nat} {W1 w w1 : World} {xs ys : List Int} {v v1 : Value} (h : PB B W1 xs v w) (ho : w1.ownsRow (B + 1) 5 1 v1 (xs ++ ys).length (nums .u8 (xs ++ ys))) (hb : Below (B + 1) W1 w1) (hg : w.grownBy w1 v.ownBlock) (hor : v1.ownBlock = v.ownBlock ∨ ∃ b, v1.ownBlock = some b ∧ w.heap.size ≤ b) : PB B W1 (xs ++ ys) v1 w1 := ⟨hb, ho⟩
/-- And block g holds the cells cs. -/
structure PG (B : Nat) (W1 : World) (l : List Int) (g : Nat) (cs : Array Value) (ty : TypeId) (v : Value) (w : World) : Prop where
  pb : PB B W1 l v w
  blk : w.heap[g]? = some (.cells cs ty (0, 0))
  ne : ∀ k, v.ownBlock = some k → k ≠ g
theorem PG.size {B g : Nat} {cs : Array Value} {ty : TypeId} {W1 w : World} {l : List Int} {v : Value} (h : PG B W1 l g cs ty v w) (h1 : B + 1 ≤ W1.heap.size) : B + 1 ≤ w.heap.size := h.pb.size h1
theorem PG.call {B g : Nat} {cs : Array Value} {ty : TypeId} {W1 w w' : World} {l : List Int} {v : Value} (h : PG B W1 l g cs ty v w) (h1 : B + 1 ≤ W1.heap.size) (q : Below w.heap.size w w') : PG B W1 l g cs ty v w' :=
  ⟨h.pb.call h1 q, by rw [q.block g (blk_lt h.blk)]; exact h.blk, h.ne⟩
theorem PG.alloc {B g : Nat} {cs : Array Value} {ty : TypeId} {W1 w : World} {l : List Int} {v : Value} (h : PG B W1 l g cs ty v w) (h1 : B + 1 ≤ W1.heap.size) (o : Obj) : PG B W1 l g cs ty v (w.alloc o) := h.call h1 ((Below.refl _ _).alloc (Nat.le_refl _) _)
theorem PG.app {B g : Nat} {cs : Array Value} {ty : TypeId} {W1 w w1 : World} {xs ys : List Int} {v v1 : Value} (h : PG B W1 xs g cs ty v w) (ho : w1.ownsRow (B + 1) 5 1 v1 (xs ++ ys).length (nums .u8 (xs ++ ys))) (hb : Below (B + 1) W1 w1) (hg : w.grownBy w1 v.ownBlock) (hor : v1.ownBlock = v.ownBlock ∨ ∃ b, v1.ownBlock = some b ∧ w.heap.size ≤ b) : PG B W1 (xs ++ ys) g cs ty v1 w1 :=
  ⟨⟨hb, ho⟩, by rw [hg.block g (blk_lt h.blk) (fun e => h.ne g (by first | exact e | exact e.symm) rfl)]; exact h.blk, fun k hk e => by
    subst e
    rcases hor with e | ⟨b, e, hb2⟩
    · exact h.ne k (e ▸ hk) rfl
    · rw [e] at hk
      have := blk_lt h.blk
      have := Option.some.inj hk
      omega⟩
theorem PB.start {B : Nat} {cs : Array Value} {ty : TypeId} {W1 w : World} {l : List Int} {v : Value} (h : PB B W1 l v w) (h1 : B + 1 ≤ W1.heap.size) : PG B W1 l w.heap.size cs ty v (w.alloc (.cells cs ty)) :=
  ⟨h.alloc h1 _, heap_alloc_new w _, fun k hk e => by have := own_lt h.own k hk; omega⟩
theorem lit_reads (w : World) (xs : List Int) (hl : xs.length ≤ 100) : ReadsInt (w.alloc (.cells (nums .u8 xs).toArray 5)) .u8 (some ⟨w.heap.size, 0, none⟩) xs.length xs := by
  obtain ⟨A, c', e, h⟩ := own_reads (own_lit w 0 5 .u8 xs (Nat.zero_le _) (by omega))
  injection e with e1
  rw [e1]
  exact h
theorem putPost_no {o : OpV} {W W' : World} (hr : right o = false) (hb : Below W.heap.size W W') : PutPost o W (.returned (.tuple #[.slice none 0 0, .int .i64 2])) W' := ⟨hb, fun h => (by rw [hr] at h; cases h), fun _ => rfl⟩
theorem fre_reads {w : World} {g : Nat} {f : Fre} (h : w.heap[g]? = some (.cells f.cells.toArray 64 (0, 0))) (hk : f.key.length = 32) : ReadsInt w .u8 (some ⟨g, 0, none⟩) 32 f.key := by
  refine ⟨hk, by omega, fun _ => ⟨_, rfl, fun j hj => ?_⟩⟩
  rw [add_plain, blk_cell h, List.getElem?_toArray]
  unfold Fre.cells
  rw [List.getElem?_append_left (by rw [List.length_map]; omega), List.getElem?_map, List.getD_eq_getElem?_getD, List.getElem?_eq_getElem (by omega)]
  rfl
theorem fre_place {w : World} {g : Nat} {f : Fre} (h : w.heap[g]? = some (.cells f.cells.toArray 64 (0, 0))) (hk : f.key.length = 32) (j : Nat) : w.cell? ⟨g, 32 + j, none⟩ = [Value.int .i64 f.at_, .int .i64 f.sectors, .int .i64 f.units, .int .i64 f.refs][j]? := by
  rw [blk_cell h, List.getElem?_toArray]
  unfold Fre.cells
  rw [List.getElem?_append_right (by rw [List.length_map, hk]; omega), List.length_map, hk, Nat.add_sub_cancel_left]
theorem pu_reads {w : World} {g : Nat} {f : Pu} (h : w.heap[g]? = some (.cells f.cells.toArray 72 (0, 0))) (hk : f.key.length = 32) : ReadsInt w .u8 (some ⟨g, 1, none⟩) 32 f.key := by
  refine ⟨hk, by omega, fun _ => ⟨_, rfl, fun j hj => ?_⟩⟩
  rw [Go.WideShapes.add_plain, blk_cell h, List.getElem?_toArray]
  unfold Pu.cells
  rw [Nat.add_comm 1 j, List.getElem?_cons_succ, List.getElem?_append_left (by rw [List.length_map]; omega), List.getElem?_map, List.getD_eq_getElem?_getD, List.getElem?_eq_getElem (by omega)]
  rfl
theorem pu_slice {w : World} {g : Nat} {f : Pu} (h : w.heap[g]? = some (.cells f.cells.toArray 72 (0, 0))) (hk : f.key.length = 32) (j : Nat) : w.cell? ⟨g, 33 + j, none⟩ = [Value.int .i64 f.off, .int .i64 f.mask][j]? := by
  rw [blk_cell h, List.getElem?_toArray]
  unfold Pu.cells
  rw [show 33 + j = (32 + j) + 1 from by omega, List.getElem?_cons_succ, List.getElem?_append_right (by rw [List.length_map, hk]; omega), List.length_map, hk, Nat.add_sub_cancel_left]
theorem num1_kind {k : Int} (h : 0 ≤ k ∧ k < 256) : num 1 k = [k] := by rw [num1, Int.emod_eq_of_lt h.1 h.2]

set_option maxHeartbeats 8000000 in
set_option maxRecDepth 1000000 in
theorem rputd_any (o : OpV) (vN vP : Value) (W : World) (hN : RdsF W vN o.news) (hP : RdsP W vP o.puts) (hk : 0 ≤ o.kind ∧ o.kind < 256) :
    Calls Tryd.prog 15 #[opVal o vN vP] W (PutPost o W) := by
  obtain ⟨B, hB⟩ : ∃ B, B = W.heap.size := ⟨_, rfl⟩
  obtain ⟨AN, cN, rfl, n1, n2⟩ := hN.form
  obtain ⟨AP, cP, rfl, p1, p2⟩ := hP.form
  have HN := Lib.hid hN
  have HP := Lib.hid hP
  have HB := Lib.hid hB
  clear hN hP hB
  unfold opVal
  go_enter Tryd.func15, Tryd.ntmps15
  go_upto_region 1 with fail
  generalize hW1 : World.alloc _ _ = W1
  have hb1 : W1.heap[W.heap.size]? = some (.cells #[.int .u8 o.kind, .int .i64 o.at_, .int .i64 o.n, .int .i64 o.snap, .slice AN o.news.length cN, .slice AP o.puts.length cP] 26 (0, 0)) := by
    rw [← hW1]; exact heap_alloc_new W _
  have bel0 : Below W.heap.size W W1 := by rw [← hW1]; exact (Below.refl _ _).alloc (Nat.le_refl _) _
  have hsz : W1.heap.size = B + 1 := by rw [← hW1, HB.out]; exact Array.size_push _
  have HN1 := Lib.hid (HN.out.below bel0)
  have HP1 := Lib.hid (HP.out.below bel0)
  clear hW1
  rw [← HB.out] at hb1 ⊢
  have HBO := Lib.hid hb1
  have HBEL := Lib.hid bel0
  have hs1 : Hid (B + 1 ≤ W1.heap.size) := by simp only [Hid]; omega
  have HSZ := Lib.hid hsz
  have hbo : ∀ w, Below (B + 1) W1 w → w.heap[B]? = some (.cells #[.int .u8 o.kind, .int .i64 o.at_, .int .i64 o.n, .int .i64 o.snap, .slice AN o.news.length cN, .slice AP o.puts.length cP] 26 (0, 0)) := fun w q => by rw [q.block B (by omega)]; exact HBO.out
  have HBW := Lib.hid hbo
  have hend : ∀ w, Below (B + 1) W1 w → Below W.heap.size W w := fun w q => HBEL.out.trans (q.mono (by have := HB.out; omega))
  have HEND := Lib.hid hend
  have HNW : Hid (∀ w, Below (B + 1) W1 w → RdsF w (.slice AN o.news.length cN) o.news) := fun w q => HN1.out.below (q.mono (by have := HSZ.out; omega))
  have HPW : Hid (∀ w, Below (B + 1) W1 w → RdsP w (.slice AP o.puts.length cP) o.puts) := fun w q => HP1.out.below (q.mono (by have := HSZ.out; omega))
  clear hb1 bel0 hsz hbo hend HN HP
  go_wp2_with (refine wpList_load_row rfl 26 (.tmp 1) rfl B rfl 26 #[.int .u8 o.kind, .int .i64 o.at_, .int .i64 o.n, .int .i64 o.snap, .slice AN o.news.length cN, .slice AP o.puts.length cP] (0, 0) _ HBO.out Tryd.underlying26 rfl size26 ?_)
  refine (rright_any o (.slice AN o.news.length cN) (.slice AP o.puts.length cP) W1 HN1.out HP1.out).mono ?_
  rintro e w2 ⟨rfl, q2⟩
  have HQ2 : Hid (Below (B + 1) W1 w2) := q2.mono hs1.out
  clear q2
  have k0 := blk_cell (HBW.out w2 HQ2.out) 0
  simp only [List.getElem?_toArray, List.getElem?_cons_zero, List.getElem?_cons_succ] at k0
  cases hr : right o with
  | false =>
    clear k0
    go_wp2_with fail
    go_ret2
    exact putPost_no hr (HEND.out _ HQ2.out)
  | true =>
    have HYES : Hid (∀ v w, PB B W1 (bytes o) v w → PutPost o W (.returned (.tuple #[v, .int .i64 0])) w) := fun v w h => putPost_yes hr (HEND.out _ h.bel) (by have := h.own; rw [← HB.out]; exact ⟨this.1, this.2.imp id (fun ⟨g, c, cur, e, h, r⟩ => ⟨g, c, cur, e, by omega, r⟩)⟩)
    go_upto_region 4 with fail
    generalize hw3 : w2.alloc _ = w3
    have hp3 : PB B W1 [o.kind] (.slice (some ⟨w2.heap.size, 0, none⟩) 1 1) w3 := by
      rw [← hw3]
      exact ⟨HQ2.out.alloc (Nat.le_trans hs1.out HQ2.out.size) _, own_lit w2 (B + 1) 5 .u8 [o.kind] (Nat.le_trans hs1.out HQ2.out.size) (by simp)⟩
    have HP3 := Lib.hid hp3
    obtain ⟨A4, n4, c4, hv4⟩ : ∃ A n c, Value.slice (some ⟨w2.heap.size, 0, none⟩) 1 1 = .slice A n c := ⟨_, _, _, rfl⟩
    rw [hv4] at HP3 ⊢
    clear hw3 hp3 hv4 HQ2 k0
    have HNK := Lib.hid (num1_kind hk)
    have k0 := blk_cell (HBW.out w3 HP3.out.bel) 0
    have k1 := blk_cell (HBW.out w3 HP3.out.bel) 1
    have k2 := blk_cell (HBW.out w3 HP3.out.bel) 2
    have k3 := blk_cell (HBW.out w3 HP3.out.bel) 3
    have k4 := blk_cell (HBW.out w3 HP3.out.bel) 4
    simp only [List.getElem?_toArray, List.getElem?_cons_zero, List.getElem?_cons_succ] at k0 k1 k2 k3 k4
    by_cases q2 : o.kind = 2
    · have e1 : (o.kind == 2) = true := by simp [q2]
      have hby : bytes o = num 1 o.kind ++ (num 2 o.at_ ++ num 2 o.n) := by unfold bytes; rw [if_neg (by omega), if_pos q2]
      have HBY := Lib.hid hby
      clear hby q2
      go_upto_region 5 with fail
      refine wp_region_gen (S := fun w' => w'.heap[B]? = some (.cells #[.int .u8 o.kind, .int .i64 o.at_, .int .i64 o.n, .int .i64 o.snap, .slice AN o.news.length cN, .slice AP o.puts.length cP] 26 (0, 0)) ∧ True) (by kernel_rfl) (fun _ _ _ _ _ h => h) ?_
      intro Q' HQP HQN
      change wpAnyH _ _ _ _ _ _ _ _ (w3.drewN 1)
      have hS : (fun w' : World => w'.heap[B]? = some (.cells #[.int .u8 o.kind, .int .i64 o.at_, .int .i64 o.n, .int .i64 o.snap, .slice AN o.news.length cN, .slice AP o.puts.length cP] 26 (0, 0)) ∧ True) (w3.drewN 1) := ⟨HBW.out w3 HP3.out.bel, trivial⟩
      refine wpAnyH_take (i := 0) (oi := ⟨some 18, _, _, _, _, none⟩) (v := ?_) rfl (by kernel_rfl) (by kernel_rfl) (by kernel_rfl) (fun c _ w h => HQP.out c _ _ _ w h) (Or.inl ⟨by rfl, ?v0⟩) hS ?_
      case v0 => (intro w hSw; (try dsimp only at hSw); obtain ⟨sb, _⟩ := hSw; go_simp; try with_reducible rfl)
      try simp only [Act.put, List.setIfInBounds_toArray, List.set_cons_zero, List.set_cons_succ]
      refine wpAnyH_take (i := 1) (oi := ⟨some 19, _, _, _, _, none⟩) (v := ?_) rfl (by kernel_rfl) (by kernel_rfl) (by kernel_rfl) (fun c _ w h => HQP.out c _ _ _ w h) (Or.inl ⟨by rfl, ?v1⟩) hS ?_
      case v1 => (intro w hSw; (try dsimp only at hSw); obtain ⟨sb, _⟩ := hSw; go_simp; try with_reducible rfl)
      try simp only [Act.put, List.setIfInBounds_toArray, List.set_cons_zero, List.set_cons_succ]
      refine wpAnyH_take (i := 2) (oi := ⟨some 20, _, _, _, _, none⟩) (v := ?_) rfl (by kernel_rfl) (by kernel_rfl) (by kernel_rfl) (fun c _ w h => HQP.out c _ _ _ w h) (Or.inl ⟨by rfl, ?v2⟩) hS ?_
      case v2 => (intro w hSw; (try dsimp only at hSw); obtain ⟨sb, _⟩ := hSw; have k1 := blk_cell sb 1; have k2 := blk_cell sb 2; simp only [List.getElem?_toArray, List.getElem?_cons_zero, List.getElem?_cons_succ] at k1 k2; go_simp; try with_reducible rfl)
      try simp only [Act.put, List.setIfInBounds_toArray, List.set_cons_zero, List.set_cons_succ]
      refine wpAnyH_take (i := 5) (oi := ⟨some 23, _, _, _, _, none⟩) (v := ?_) rfl (by kernel_rfl) (by kernel_rfl) (by kernel_rfl) (fun c _ w h => HQP.out c _ _ _ w h) (Or.inl ⟨by rfl, ?v5⟩) hS ?_
      case v5 => (intro w hSw; (try dsimp only at hSw); obtain ⟨sb, _⟩ := hSw; go_simp; try with_reducible rfl)
      try simp only [Act.put, List.setIfInBounds_toArray, List.set_cons_zero, List.set_cons_succ]
      refine wpAnyH_take (i := 6) (oi := ⟨some 24, _, _, _, _, none⟩) (v := ?_) rfl (by kernel_rfl) (by kernel_rfl) (by kernel_rfl) (fun c _ w h => HQP.out c _ _ _ w h) (Or.inl ⟨by rfl, ?v6⟩) hS ?_
      case v6 => (intro w hSw; (try dsimp only at hSw); obtain ⟨sb, _⟩ := hSw; have k1 := blk_cell sb 1; have k2 := blk_cell sb 2; simp only [List.getElem?_toArray, List.getElem?_cons_zero, List.getElem?_cons_succ] at k1 k2; go_simp; try with_reducible rfl)
      try simp only [Act.put, List.setIfInBounds_toArray, List.set_cons_zero, List.set_cons_succ]
      have HP3d := Lib.hid (HP3.out.drew 1)
      clear HP3
      refine wpAnyH_ready (rs := [3]) (by kernel_rfl) (by simp) ?_
      refine AllReadyH.cons (o := ⟨some 21, _, _, _, _, none⟩) rfl (fun KQ hK => ?_) AllReadyH.nil
      rw [if_pos (by rfl)]
      go_wp2_with fail
      refine (rnum_any (o.at_) 2 (w3.drewN 1) (by omega) (by omega)).mono ?_
      rintro e w4 ⟨v', rfl, hov, qq⟩
      obtain ⟨An, cn, rfl, hrd⟩ := own_reads hov
      have HP4 := Lib.hid (HP3d.out.call hs1.out qq)
      have HR4 := Lib.hid hrd
      clear hov qq hrd HP3d
      go_wp2_with fail
      clear hS
      have hS : (fun w' : World => w'.heap[B]? = some (.cells #[.int .u8 o.kind, .int .i64 o.at_, .int .i64 o.n, .int .i64 o.snap, .slice AN o.news.length cN, .slice AP o.puts.length cP] 26 (0, 0)) ∧ True) (w4) := ⟨HBW.out w4 HP4.out.bel, trivial⟩
      refine hK.out _ _ hS (fun _ => ?_)
      try simp only [Act.put, List.setIfInBounds_toArray, List.set_cons_zero, List.set_cons_succ]
      refine wpAnyH_ready (rs := [4]) (by kernel_rfl) (by simp) ?_
      refine AllReadyH.cons (o := ⟨some 22, _, _, _, _, none⟩) rfl (fun KQ hK => ?_) AllReadyH.nil
      rw [if_pos (by rfl)]
      refine wp_append_row (w0 := W1) (B + 1) _ _ 30 5 .u8 1 rfl Tryd.underlying30 infoByte (by decide) (.slice A4 n4 c4) [o.kind] (num 2 o.at_) An 2 cn rfl rfl HP4.out.own HR4.out HP4.out.bel (HP4.out.size hs1.out) (by simp [num_length]) ?_
      intro v1 w5 ho1 hb1 hg1 hor1
      have HP5 := Lib.hid (HP4.out.app ho1 hb1 hg1 hor1)
      obtain ⟨A5, n5, c5, rfl⟩ : ∃ A n c, v1 = .slice A n c := by obtain ⟨A, c, e⟩ := own_slice ho1; exact ⟨A, _, c, e⟩
      clear ho1 hb1 hg1 hor1 HP4 HR4
      clear hS
      have hS : (fun w' : World => w'.heap[B]? = some (.cells #[.int .u8 o.kind, .int .i64 o.at_, .int .i64 o.n, .int .i64 o.snap, .slice AN o.news.length cN, .slice AP o.puts.length cP] 26 (0, 0)) ∧ True) (w5) := ⟨HBW.out w5 HP5.out.bel, trivial⟩
      refine hK.out _ _ hS (fun _ => ?_)
      try simp only [Act.put, List.setIfInBounds_toArray, List.set_cons_zero, List.set_cons_succ]
      refine wpAnyH_ready (rs := [7]) (by kernel_rfl) (by simp) ?_
      refine AllReadyH.cons (o := ⟨some 25, _, _, _, _, none⟩) rfl (fun KQ hK => ?_) AllReadyH.nil
      rw [if_pos (by rfl)]
      go_wp2_with fail
      refine (rnum_any (o.n) 2 w5 (by omega) (by omega)).mono ?_
      rintro e w6 ⟨v', rfl, hov, qq⟩
      obtain ⟨An, cn, rfl, hrd⟩ := own_reads hov
      have HP6 := Lib.hid (HP5.out.call hs1.out qq)
      have HR6 := Lib.hid hrd
      clear hov qq hrd HP5
      go_wp2_with fail
      clear hS
      have hS : (fun w' : World => w'.heap[B]? = some (.cells #[.int .u8 o.kind, .int .i64 o.at_, .int .i64 o.n, .int .i64 o.snap, .slice AN o.news.length cN, .slice AP o.puts.length cP] 26 (0, 0)) ∧ True) (w6) := ⟨HBW.out w6 HP6.out.bel, trivial⟩
      refine hK.out _ _ hS (fun _ => ?_)
      try simp only [Act.put, List.setIfInBounds_toArray, List.set_cons_zero, List.set_cons_succ]
      refine wpAnyH_ready (rs := [8]) (by kernel_rfl) (by simp) ?_
      refine AllReadyH.cons (o := ⟨some 26, _, _, _, _, none⟩) rfl (fun KQ hK => ?_) AllReadyH.nil
      rw [if_pos (by rfl)]
      refine wp_append_row (w0 := W1) (B + 1) _ _ 30 5 .u8 1 rfl Tryd.underlying30 infoByte (by decide) (.slice A5 n5 c5) ([o.kind] ++ num 2 o.at_) (num 2 o.n) An 2 cn rfl rfl HP6.out.own HR6.out HP6.out.bel (HP6.out.size hs1.out) (by simp [num_length]) ?_
      intro v1 w7 ho1 hb1 hg1 hor1
      have HP7 := Lib.hid (HP6.out.app ho1 hb1 hg1 hor1)
      obtain ⟨A7, n7, c7, rfl⟩ : ∃ A n c, v1 = .slice A n c := by obtain ⟨A, c, e⟩ := own_slice ho1; exact ⟨A, _, c, e⟩
      clear ho1 hb1 hg1 hor1 HP6 HR6
      clear hS
      have hS : (fun w' : World => w'.heap[B]? = some (.cells #[.int .u8 o.kind, .int .i64 o.at_, .int .i64 o.n, .int .i64 o.snap, .slice AN o.news.length cN, .slice AP o.puts.length cP] 26 (0, 0)) ∧ True) (w7) := ⟨HBW.out w7 HP7.out.bel, trivial⟩
      refine hK.out _ _ hS (fun _ => ?_)
      try simp only [Act.put, List.setIfInBounds_toArray, List.set_cons_zero, List.set_cons_succ]
      refine wpAnyH_take (i := 9) (oi := ⟨some 2, _, _, _, _, none⟩) (v := ?_) rfl (by kernel_rfl) (by kernel_rfl) (by kernel_rfl) (fun c _ w h => HQP.out c _ _ _ w h) (Or.inl ⟨by rfl, ?v9⟩) hS ?_
      case v9 => (intro w hSw; (try dsimp only at hSw); obtain ⟨sb, _⟩ := hSw; go_simp; try with_reducible rfl)
      try simp only [Act.put, List.setIfInBounds_toArray, List.set_cons_zero, List.set_cons_succ]
      refine wpAnyH_take (i := 10) (oi := ⟨some 3, _, _, _, _, none⟩) (v := ?_) rfl (by kernel_rfl) (by kernel_rfl) (by kernel_rfl) (fun c _ w h => HQP.out c _ _ _ w h) (Or.inl ⟨by rfl, ?v10⟩) hS ?_
      case v10 => (intro w hSw; (try dsimp only at hSw); obtain ⟨sb, _⟩ := hSw; go_simp; try with_reducible rfl)
      try simp only [Act.put, List.setIfInBounds_toArray, List.set_cons_zero, List.set_cons_succ]
      refine wpAnyH_done (by kernel_rfl) ?_ _
      refine HQN.out _ _ ?_
      clear HQP HQN hS
      go_wp2
      go_ret2
      exact HYES.out _ _ (by rw [HBY.out, HNK.out, ← List.append_assoc]; exact HP7.out)
    · have e1 : (o.kind == 2) = false := by simp [q2]
      by_cases q1 : o.kind = 1
      · have e2 : (o.kind == 1) = true := by simp [q1]
        have hby : bytes o = num 1 o.kind ++ (num 1 (o.news.length : Int) ++ (o.news.flatMap encF ++ (num 1 (o.puts.length : Int) ++ o.puts.flatMap encP))) := by unfold bytes; rw [if_pos q1]
        have HBY := Lib.hid hby
        obtain ⟨f18, g18⟩ := right_few hr
        have HLF : Hid (∀ i, ((o.news.take i).flatMap encF).length ≤ 702) := fun i => by
          rw [flat_len (w := 39) (fun x hx => encF_len (HN1.out.2 x (List.mem_of_mem_take hx)).1), List.length_take]; omega
        have HLP : Hid (∀ i, ((o.puts.take i).flatMap encP).length ≤ 648) := fun i => by
          rw [flat_len (w := 36) (fun x hx => encP_len (HP1.out.2 x (List.mem_of_mem_take hx)).2.1), List.length_take]; omega
        clear hby q1 q2
        have hlr := lit_reads w3 [(o.news.length : Int)] (by simp)
        have HLR : Hid (ReadsInt (w3.alloc (.cells #[.int .u8 ((o.news.length : Int))] 5)) .u8 (some ⟨w3.heap.size, 0, none⟩) 1 [(o.news.length : Int)]) := hlr
        have HPa := Lib.hid (HP3.out.alloc hs1.out (.cells #[.int .u8 ((o.news.length : Int))] 5))
        clear hlr HP3
        go_wp2_with (at_builtin; refine print_append_row (w0 := W1) (B + 1) rfl _ _ 30 5 .u8 1 rfl Tryd.underlying30 infoByte (by decide) (.slice A4 n4 c4) [o.kind] [(o.news.length : Int)] (some ⟨w3.heap.size, 0, none⟩) 1 1 rfl rfl HPa.out.own HLR.out HPa.out.bel (HPa.out.size hs1.out) (by simp) ?_)
        intro v1 w5 ho1 hb1 hg1 hor1
        have HP5 := Lib.hid (HPa.out.app (ys := [(o.news.length : Int)]) (by first | exact ho1 | simpa using ho1) hb1 hg1 (by first | exact hor1 | simpa using hor1))
        obtain ⟨A5, n5, c5, rfl⟩ : ∃ A n c, v1 = .slice A n c := by obtain ⟨A, c, e⟩ := own_slice ho1; exact ⟨A, _, c, e⟩
        clear ho1 hb1 hg1 hor1 HPa HLR
        obtain ⟨l0, hl0⟩ : ∃ l0, l0 = [o.kind] ++ [(o.news.length : Int)] := ⟨_, rfl⟩
        have hl0l : l0.length = 2 := by rw [hl0]; rfl
        rw [← hl0] at HP5
        have HL0 := Lib.hid hl0
        clear hl0 k0 k1 k2 k3 k4
        go_wp2_with fail
        go_loopw [5, 4] (fun v5 v4 wr => ∃ (i : Nat) (A : Option Addr) (n c : Nat), v5 = .int .i64 (i : Int) ∧ v4 = .slice A n c ∧ i ≤ o.news.length ∧ Hid (PB B W1 (l0 ++ (o.news.take i).flatMap encF) (.slice A n c) wr)) (fun v5 _ _ => o.news.length - (intOf v5).toNat)
        case atStart => exact ⟨0, A5, n5, c5, rfl, rfl, by omega, by simpa [Hid] using HP5.out⟩
        case round =>
          clear HP5
          obtain ⟨i, Ai, ni, ci, rfl, rfl, hi, HPi⟩ := hrel
          have k4 := blk_cell (HBW.out wr HPi.out.bel) 4
          have k5 := blk_cell (HBW.out wr HPi.out.bel) 5
          simp only [List.getElem?_toArray, List.getElem?_cons_zero, List.getElem?_cons_succ] at k4 k5
          by_cases hlt : i < o.news.length
          · obtain ⟨bn, off, rfl, hbl, hr2⟩ := (HNW.out wr HPi.out.bel).at_ (by omega)
            have hri := hr2 i hlt
            have hw := HN1.out.2 _ (List.getElem_mem hlt)
            have htk : (o.news.take (i + 1)).flatMap encF = (o.news.take i).flatMap encF ++ encF o.news[i] := by
              rw [List.take_succ_eq_append_getElem hlt, List.flatMap_append]; simp
            have hll : (l0 ++ (o.news.take i).flatMap encF).length ≤ 1000 := by rw [List.length_append]; have := HLF.out i; omega
            obtain ⟨li, hli⟩ : ∃ li, li = l0 ++ (o.news.take i).flatMap encF := ⟨_, rfl⟩
            rw [← hli] at HPi hll
            have HLI := Lib.hid hli
            clear hli hr2
            generalize o.news[i] = f at hri hw htk
            have HTK := Lib.hid htk
            have HRI := Lib.hid hri
            have hs2 : (Tryd.prog.info? 64).map (·.size) = some f.cells.length := by rw [hw.len]; exact size64
            have z0 : (0 : Int) ≤ (i : Int) := by omega
            have z1 : (i : Int) < (o.news.length : Int) := by omega
            have HHS := Lib.hid hs2
            have HKL := Lib.hid hw.1.1
            clear hri htk hs2
            go_upto_region 13 with (first | refine wpList_load_mid rfl 64 _ rfl bn (off + i * 36) rfl f.cells _ HRI.out Tryd.underlying64 rfl HHS.out ?_ | refine wpList_alloc_store rfl rfl 64 rfl 6 rfl (.tmp 53) rfl rfl 36 zero64 f.cells.toArray (by simp [hw.len]) rfl rfl (all_oneCell_toArray f.one) ?_)
            have HGa := Lib.hid (HPi.out.start (cs := f.cells.toArray) (ty := 64) hs1.out)
            obtain ⟨g6, hg6⟩ : ∃ g6, g6 = wr.heap.size := ⟨_, rfl⟩
            rw [← hg6] at HGa ⊢
            generalize wr.alloc _ = wa at *
            clear hg6 HPi HRI k4 k5
            have HKR := Lib.hid (fre_reads HGa.out.blk HKL.out)
            go_wp2_with (at_builtin; refine print_append_row (w0 := W1) (B + 1) rfl _ _ 30 5 .u8 1 rfl Tryd.underlying30 infoByte (by decide) (.slice Ai ni ci) li f.key (some ⟨g6, 0, none⟩) 32 32 rfl rfl HGa.out.pb.own HKR.out HGa.out.pb.bel (HGa.out.size hs1.out) (by omega) ?_)
            intro v1 wb ho1 hb1 hg1 hor1
            have HGb := Lib.hid (HGa.out.app (ys := f.key) (by first | exact ho1 | simpa using ho1) hb1 hg1 (by first | exact hor1 | simpa using hor1))
            obtain ⟨Ab, nb, cb, rfl⟩ : ∃ A n c, v1 = .slice A n c := by obtain ⟨A, c, e⟩ := own_slice ho1; exact ⟨A, _, c, e⟩
            clear ho1 hb1 hg1 hor1 HGa HKR
            have c0 := fre_place HGb.out.blk hw.1.1 0
            simp only [List.getElem?_cons_zero, List.getElem?_cons_succ, Nat.add_zero] at c0
            go_wp2_with fail
            refine (rnum_any (f.at_) 4 wb (by omega) (by omega)).mono ?_
            rintro e wc ⟨v', rfl, hov, qq⟩
            obtain ⟨An, cn, rfl, hrd⟩ := own_reads hov
            have HGc := Lib.hid (HGb.out.call hs1.out qq)
            have HRN := Lib.hid hrd
            clear hov qq hrd HGb
            clear c0
            go_wp2_with (at_builtin; refine print_append_row (w0 := W1) (B + 1) rfl _ _ 30 5 .u8 1 rfl Tryd.underlying30 infoByte (by decide) (.slice Ab nb cb) (li ++ f.key) (num 4 f.at_) An 4 cn rfl rfl HGc.out.pb.own HRN.out HGc.out.pb.bel (HGc.out.size hs1.out) (by have hkl := HKL.out; simp [num_length, hkl]; omega) ?_)
            intro v1 wd ho1 hb1 hg1 hor1
            have HGd := Lib.hid (HGc.out.app (ys := (num 4 f.at_)) (by first | exact ho1 | simpa using ho1) hb1 hg1 (by first | exact hor1 | simpa using hor1))
            obtain ⟨Ad, nd, cd, rfl⟩ : ∃ A n c, v1 = .slice A n c := by obtain ⟨A, c, e⟩ := own_slice ho1; exact ⟨A, _, c, e⟩
            clear ho1 hb1 hg1 hor1 HGc HRN
            have c1 := fre_place HGd.out.blk hw.1.1 1
            simp only [List.getElem?_cons_zero, List.getElem?_cons_succ, Nat.add_zero] at c1
            go_wp2_with fail
            refine (rnum_any (f.sectors) 2 wd (by omega) (by omega)).mono ?_
            rintro e we ⟨v', rfl, hov, qq⟩
            obtain ⟨An, cn, rfl, hrd⟩ := own_reads hov
            have HGe := Lib.hid (HGd.out.call hs1.out qq)
            have HRN := Lib.hid hrd
            clear hov qq hrd HGd
            clear c1
            go_wp2_with (at_builtin; refine print_append_row (w0 := W1) (B + 1) rfl _ _ 30 5 .u8 1 rfl Tryd.underlying30 infoByte (by decide) (.slice Ad nd cd) (li ++ f.key ++ num 4 f.at_) (num 2 f.sectors) An 2 cn rfl rfl HGe.out.pb.own HRN.out HGe.out.pb.bel (HGe.out.size hs1.out) (by have hkl := HKL.out; simp [num_length, hkl]; omega) ?_)
            intro v1 wf ho1 hb1 hg1 hor1
            have HGf := Lib.hid (HGe.out.app (ys := (num 2 f.sectors)) (by first | exact ho1 | simpa using ho1) hb1 hg1 (by first | exact hor1 | simpa using hor1))
            obtain ⟨Af, nf, cf, rfl⟩ : ∃ A n c, v1 = .slice A n c := by obtain ⟨A, c, e⟩ := own_slice ho1; exact ⟨A, _, c, e⟩
            clear ho1 hb1 hg1 hor1 HGe HRN
            have c2 := fre_place HGf.out.blk hw.1.1 2
            simp only [List.getElem?_cons_zero, List.getElem?_cons_succ] at c2
            have hlr := lit_reads wf [f.units % 256] (by simp)
            have HLR : Hid (ReadsInt (wf.alloc (.cells #[.int .u8 (f.units % 256)] 5)) .u8 (some ⟨wf.heap.size, 0, none⟩) 1 [f.units % 256]) := hlr
            have HPa := Lib.hid (HGf.out.alloc hs1.out (.cells #[.int .u8 (f.units % 256)] 5))
            clear hlr HGf
            go_wp2_with (at_builtin; refine print_append_row (w0 := W1) (B + 1) rfl _ _ 30 5 .u8 1 rfl Tryd.underlying30 infoByte (by decide) (.slice Af nf cf) (li ++ f.key ++ num 4 f.at_ ++ num 2 f.sectors) [f.units % 256] (some ⟨wf.heap.size, 0, none⟩) 1 1 rfl rfl HPa.out.pb.own HLR.out HPa.out.pb.bel (HPa.out.size hs1.out) (by have hkl := HKL.out; simp [num_length, hkl]; omega) ?_)
            intro v1 wg ho1 hb1 hg1 hor1
            have HGg := Lib.hid (HPa.out.app (ys := [f.units % 256]) (by first | exact ho1 | simpa using ho1) hb1 hg1 (by first | exact hor1 | simpa using hor1))
            obtain ⟨Ag, ng, cg, rfl⟩ : ∃ A n c, v1 = .slice A n c := by obtain ⟨A, c, e⟩ := own_slice ho1; exact ⟨A, _, c, e⟩
            clear ho1 hb1 hg1 hor1 HPa HLR
            have HE : Hid (li ++ f.key ++ num 4 f.at_ ++ num 2 f.sectors ++ [f.units % 256] = li ++ encF f) := by simp [Hid, encF, num1]
            go_wp2
            go_roundw
            case rel => exact ⟨i + 1, _, _, _, by go_num, rfl, by omega, by simp only [Hid]; rw [HTK.out, ← List.append_assoc, ← HLI.out, ← HE.out]; exact HGg.out.pb⟩
            case measure => simp [intOf]; omega
          · obtain rfl : i = o.news.length := by omega
            rw [List.take_length] at HPi
            have hl1 : (l0 ++ o.news.flatMap encF).length ≤ 1000 := by have := HLF.out o.news.length; rw [List.take_length] at this; rw [List.length_append]; omega
            obtain ⟨lm, hlm⟩ : ∃ lm : List Int, lm = l0 ++ o.news.flatMap encF := ⟨_, rfl⟩
            rw [← hlm] at HPi hl1
            have HLM := Lib.hid hlm
            have HL1 := Lib.hid hl1
            clear hl1 hlm
            have hlr := lit_reads wr [(o.puts.length : Int)] (by simp)
            have HLR : Hid (ReadsInt (wr.alloc (.cells #[.int .u8 ((o.puts.length : Int))] 5)) .u8 (some ⟨wr.heap.size, 0, none⟩) 1 [(o.puts.length : Int)]) := hlr
            have HPa := Lib.hid (HPi.out.alloc hs1.out (.cells #[.int .u8 ((o.puts.length : Int))] 5))
            clear hlr HPi
            go_wp2_with (at_builtin; refine print_append_row (w0 := W1) (B + 1) rfl _ _ 30 5 .u8 1 rfl Tryd.underlying30 infoByte (by decide) (.slice Ai ni ci) lm [(o.puts.length : Int)] (some ⟨wr.heap.size, 0, none⟩) 1 1 rfl rfl HPa.out.own HLR.out HPa.out.bel (HPa.out.size hs1.out) (by have := HL1.out; omega) ?_)
            intro v1 w6 ho1 hb1 hg1 hor1
            have HP6 := Lib.hid (HPa.out.app (ys := [(o.puts.length : Int)]) (by first | exact ho1 | simpa using ho1) hb1 hg1 (by first | exact hor1 | simpa using hor1))
            obtain ⟨A6, n6, c6, rfl⟩ : ∃ A n c, v1 = .slice A n c := by obtain ⟨A, c, e⟩ := own_slice ho1; exact ⟨A, _, c, e⟩
            clear ho1 hb1 hg1 hor1 HPa HLR
            obtain ⟨l1, hl1⟩ : ∃ l1 : List Int, l1 = lm ++ [(o.puts.length : Int)] := ⟨_, rfl⟩
            have hl1l : l1.length ≤ 1001 := by rw [hl1, List.length_append]; have := HL1.out; simp only [List.length_cons, List.length_nil]; omega
            rw [← hl1] at HP6
            have HLL := Lib.hid hl1
            clear hl1 k4 k5
            go_wp2_with fail
            go_loopw [7, 4] (fun v7 v4 wr => ∃ (i : Nat) (A : Option Addr) (n c : Nat), v7 = .int .i64 (i : Int) ∧ v4 = .slice A n c ∧ i ≤ o.puts.length ∧ Hid (PB B W1 (l1 ++ (o.puts.take i).flatMap encP) (.slice A n c) wr)) (fun v7 _ _ => o.puts.length - (intOf v7).toNat)
            case atStart => exact ⟨0, A6, n6, c6, rfl, rfl, by omega, by simpa [Hid] using HP6.out⟩
            case round =>
              clear HP6
              obtain ⟨i, Ai, ni, ci, rfl, rfl, hi, HPi⟩ := hrel
              have k5 := blk_cell (HBW.out wr HPi.out.bel) 5
              simp only [List.getElem?_toArray, List.getElem?_cons_zero, List.getElem?_cons_succ] at k5
              by_cases hlt : i < o.puts.length
              · obtain ⟨bn, off, rfl, hbl, hr2⟩ := (HPW.out wr HPi.out.bel).at_ (by omega)
                have hri := hr2 i hlt
                have hw := HP1.out.2 _ (List.getElem_mem hlt)
                have htk : (o.puts.take (i + 1)).flatMap encP = (o.puts.take i).flatMap encP ++ encP o.puts[i] := by
                  rw [List.take_succ_eq_append_getElem hlt, List.flatMap_append]; simp
                have hll : (l1 ++ (o.puts.take i).flatMap encP).length ≤ 2000 := by rw [List.length_append]; have := HLP.out i; omega
                obtain ⟨li, hli⟩ : ∃ li, li = l1 ++ (o.puts.take i).flatMap encP := ⟨_, rfl⟩
                rw [← hli] at HPi hll
                have HLI := Lib.hid hli
                clear hli hr2
                generalize o.puts[i] = f at hri hw htk
                have HTK := Lib.hid htk
                have HRI := Lib.hid hri
                have hs2 : (Tryd.prog.info? 72).map (·.size) = some f.cells.length := by rw [hw.len]; exact size72
                have z0 : (0 : Int) ≤ (i : Int) := by omega
                have z1 : (i : Int) < (o.puts.length : Int) := by omega
                have HHS := Lib.hid hs2
                have HKL := Lib.hid hw.2.1.1
                clear hri htk hs2
                go_upto_region 22 with (first | refine wpList_load_mid rfl 72 _ rfl bn (off + i * 35) rfl f.cells _ HRI.out Tryd.underlying72 rfl HHS.out ?_ | refine wpList_alloc_store rfl rfl 72 rfl 8 rfl (.tmp 95) rfl rfl 35 zero72 f.cells.toArray (by simp [hw.len]) rfl rfl (all_oneCell_toArray f.one) ?_)
                have HGa := Lib.hid (HPi.out.start (cs := f.cells.toArray) (ty := 72) hs1.out)
                obtain ⟨g6, hg6⟩ : ∃ g6, g6 = wr.heap.size := ⟨_, rfl⟩
                rw [← hg6] at HGa ⊢
                generalize wr.alloc _ = wa at *
                clear hg6 HPi HRI k5
                have c0 : wa.cell? ⟨g6, 0, none⟩ = some (.int .i64 f.unit) := by rw [blk_cell HGa.out.blk]; rfl
                go_wp2_with fail
                refine (rnum_any (f.unit) 2 wa (by omega) (by omega)).mono ?_
                rintro e wb ⟨v', rfl, hov, qq⟩
                obtain ⟨An, cn, rfl, hrd⟩ := own_reads hov
                have HGb := Lib.hid (HGa.out.call hs1.out qq)
                have HRN := Lib.hid hrd
                clear hov qq hrd HGa
                clear c0
                go_wp2_with (at_builtin; refine print_append_row (w0 := W1) (B + 1) rfl _ _ 30 5 .u8 1 rfl Tryd.underlying30 infoByte (by decide) (.slice Ai ni ci) li (num 2 f.unit) An 2 cn rfl rfl HGb.out.pb.own HRN.out HGb.out.pb.bel (HGb.out.size hs1.out) (by simp [num_length]; omega) ?_)
                intro v1 wc ho1 hb1 hg1 hor1
                have HGc := Lib.hid (HGb.out.app (ys := (num 2 f.unit)) (by first | exact ho1 | simpa using ho1) hb1 hg1 (by first | exact hor1 | simpa using hor1))
                obtain ⟨Ac, nc, cc, rfl⟩ : ∃ A n c, v1 = .slice A n c := by obtain ⟨A, c, e⟩ := own_slice ho1; exact ⟨A, _, c, e⟩
                clear ho1 hb1 hg1 hor1 HGb HRN
                have HKR := Lib.hid (pu_reads HGc.out.blk HKL.out)
                go_wp2_with (at_builtin; refine print_append_row (w0 := W1) (B + 1) rfl _ _ 30 5 .u8 1 rfl Tryd.underlying30 infoByte (by decide) (.slice Ac nc cc) (li ++ num 2 f.unit) f.key (some ⟨g6, 1, none⟩) 32 32 rfl rfl HGc.out.pb.own HKR.out HGc.out.pb.bel (HGc.out.size hs1.out) (by simp [num_length]; omega) ?_)
                intro v1 wd ho1 hb1 hg1 hor1
                have HGd := Lib.hid (HGc.out.app (ys := f.key) (by first | exact ho1 | simpa using ho1) hb1 hg1 (by first | exact hor1 | simpa using hor1))
                obtain ⟨Ad, nd, cd, rfl⟩ : ∃ A n c, v1 = .slice A n c := by obtain ⟨A, c, e⟩ := own_slice ho1; exact ⟨A, _, c, e⟩
                clear ho1 hb1 hg1 hor1 HGc HKR
                have c1 := pu_slice HGd.out.blk HKL.out 0
                have c2 := pu_slice HGd.out.blk HKL.out 1
                simp only [List.getElem?_cons_zero, List.getElem?_cons_succ, Nat.add_zero] at c1 c2
                have hlr := lit_reads wd [f.off % 256, f.mask % 256] (by simp)
                have HLR : Hid (ReadsInt (wd.alloc (.cells #[.int .u8 (f.off % 256), .int .u8 (f.mask % 256)] 5)) .u8 (some ⟨wd.heap.size, 0, none⟩) 2 [f.off % 256, f.mask % 256]) := hlr
                have HPa := Lib.hid (HGd.out.alloc hs1.out (.cells #[.int .u8 (f.off % 256), .int .u8 (f.mask % 256)] 5))
                clear hlr HGd
                go_wp2_with (at_builtin; refine print_append_row (w0 := W1) (B + 1) rfl _ _ 30 5 .u8 1 rfl Tryd.underlying30 infoByte (by decide) (.slice Ad nd cd) (li ++ num 2 f.unit ++ f.key) [f.off % 256, f.mask % 256] (some ⟨wd.heap.size, 0, none⟩) 2 2 rfl rfl HPa.out.pb.own HLR.out HPa.out.pb.bel (HPa.out.size hs1.out) (by have hkl := HKL.out; simp [num_length, hkl]; omega) ?_)
                intro v1 wg ho1 hb1 hg1 hor1
                have HGg := Lib.hid (HPa.out.app (ys := [f.off % 256, f.mask % 256]) (by first | exact ho1 | simpa using ho1) hb1 hg1 (by first | exact hor1 | simpa using hor1))
                obtain ⟨Ag, ng, cg, rfl⟩ : ∃ A n c, v1 = .slice A n c := by obtain ⟨A, c, e⟩ := own_slice ho1; exact ⟨A, _, c, e⟩
                clear ho1 hb1 hg1 hor1 HPa HLR
                have HE : Hid (li ++ num 2 f.unit ++ f.key ++ [f.off % 256, f.mask % 256] = li ++ encP f) := by simp [Hid, encP, num1]
                go_wp2
                go_roundw
                case rel => exact ⟨i + 1, _, _, _, by go_num, rfl, by omega, by simp only [Hid]; rw [HTK.out, ← List.append_assoc, ← HLI.out, ← HE.out]; exact HGg.out.pb⟩
                case measure => simp [intOf]; omega
              · obtain rfl : i = o.puts.length := by omega
                rw [List.take_length] at HPi
                have hfin : l1 ++ o.puts.flatMap encP = bytes o := by
                  rw [HBY.out, HLL.out, HLM.out, HL0.out, HNK.out, num1, num1, Int.emod_eq_of_lt (by omega) (by omega), Int.emod_eq_of_lt (by omega) (by omega)]
                  simp
                rw [hfin] at HPi
                clear hfin
                go_wp2
                go_ret2
                exact HYES.out _ _ HPi.out
      · have e2 : (o.kind == 1) = false := by simp [q1]
        have hby : bytes o = num 1 o.kind ++ num 4 o.snap := by unfold bytes; rw [if_neg q1, if_neg q2]
        have HBY := Lib.hid hby
        clear hby q2 q1
        go_wp2_with fail
        refine (rnum_any (o.snap) 4 w3 (by omega) (by omega)).mono ?_
        rintro e w4 ⟨v', rfl, hov, qq⟩
        obtain ⟨An, cn, rfl, hrd⟩ := own_reads hov
        have HP4 := Lib.hid (HP3.out.call hs1.out qq)
        have HR4 := Lib.hid hrd
        clear hov qq hrd HP3
        go_wp2_with (at_builtin; refine print_append_row (w0 := W1) (B + 1) rfl _ _ 30 5 .u8 1 rfl Tryd.underlying30 infoByte (by decide) (.slice A4 n4 c4) [o.kind] (num 4 o.snap) An 4 cn rfl rfl HP4.out.own HR4.out HP4.out.bel (HP4.out.size hs1.out) (by simp [num_length]) ?_)
        intro v1 w5 ho1 hb1 hg1 hor1
        have HP5 := Lib.hid (HP4.out.app (ys := (num 4 o.snap)) (by first | exact ho1 | simpa using ho1) hb1 hg1 (by first | exact hor1 | simpa using hor1))
        obtain ⟨A5, n5, c5, rfl⟩ : ∃ A n c, v1 = .slice A n c := by obtain ⟨A, c, e⟩ := own_slice ho1; exact ⟨A, _, c, e⟩
        clear ho1 hb1 hg1 hor1 HP4 HR4
        go_wp2
        go_ret2
        exact HYES.out _ _ (by rw [HBY.out, HNK.out]; exact HP5.out)
end Go.Proofs.YtlagkfiafelnnaaDoor
