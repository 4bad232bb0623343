/- op.row: rows of extents and of units, read. -/
import Derived.Test.YtlagkfiafelnnaaDoorRpu
import Derived.Great.BuildSlice
import Derived.ArgAppend
import Derived.OwnWalk
set_option linter.unusedVariables false
set_option linter.unusedSimpArgs false
namespace Go.Proofs.YtlagkfiafelnnaaDoor
open Go.RowKit Go.Proofs.YtlagkfiafelnnaaDoorW.PrintWords

theorem setMany_self {C : Array Value} {l : List Value} (h : C.size = l.length) : setMany C 0 l = l.toArray := by
  have := setMany_all (C := C) (cs := l.toArray) (by simpa using h)
  simpa using this
section
variable {P : Program} {w : World} {ops : Array Oper} {rest : List Oper} {o : Oper} {a : Act} {Q : Exit → Act → World → Prop}
/-- A slice of one struct, made. -/
theorem wpList_slice1 (hg : o.guard = none) (t e : TypeId) (x : Operand) (ho : o.op = .buildSlice t 1 #[(0, x)]) (cs : List Value) (k : Nat) (hu : P.underlying t = some (.slice e))
    (hz : (P.info? e).map (fun i => (i.zero.map (·.cells.size), i.size)) = some (some k, k)) (hk0 : 0 < k) (hk : k ≤ 1000) (hx : a.eval x = .agg cs.toArray) (hl : cs.length = k)
    (h : wpList P ops Q rest (a.put o.dst (.slice (some ⟨w.heap.size, 0, none⟩) 1 1)) (w.alloc (.cells cs.toArray e))) : wpList P ops Q (o :: rest) a w := by
  obtain ⟨i, hi, hz'⟩ := Option.map_eq_some_iff.1 hz
  simp only [Prod.mk.injEq] at hz'
  obtain ⟨hz1, hz2⟩ := hz'
  obtain ⟨Z, hZ, hZs⟩ := Option.map_eq_some_iff.1 hz1
  have e1 : ((#[(0, x)] : Array (Nat × Operand)).map fun (i, x) => (i, a.eval x)).toList = [(0, a.eval x)] := by simp
  refine wpList_buildSlice hg t e 1 #[(0, x)] ho cs.toArray i Z hu hi hZ (by omega) (by omega) ?_ h
  rw [e1, hx, fill_one _ _ 0 0 k _ (by rw [hz2]; simp) (by simpa [Value.cells] using hl) (by simp; omega)]
  congr 1
  simp only [Value.cells]
  exact setMany_self (by simp; omega)

theorem wpList_append_owns (hgd : o.guard = none) (base base2 : Nat) (s x : Operand) (t e : TypeId) (z : Value) (size bytes : Nat)
    (ho : o.op = .call { callee := .builtin .append, args := #[s, x], argTypes := #[t, t] })
    (ht : P.underlying t = some (.slice e)) (hinfo : (P.info? e).map (fun i => (i.zero, i.size, i.bytes)) = some (some z, size, bytes)) (hz : z.cells.size = size) (hs0 : 0 < size) (hb0 : 0 < bytes)
    (v v2 : Value) (n m : Nat) (xs ys : List Value) (hs : a.eval s = v) (hx : a.eval x = v2)
    (HO : w.ownsRow base e size v n xs) (H2 : w.ownsRow base2 e size v2 m ys) (h1 : ∀ u ∈ ys, u.oneCell' = true) (hbase : base ≤ w.heap.size) (hl : (n + m) * bytes ≤ 140737488355328)
    (h : ∀ v1 w1, w1.ownsRow base e size v1 (n + m) (xs ++ ys) → w.grownBy w1 v.ownBlock → wpList P ops Q rest (a.put o.dst v1) w1) :
    wpList P ops Q (o :: rest) a w := by
  obtain ⟨i0, hi, hzz⟩ := Option.map_eq_some_iff.1 hinfo
  simp only [Prod.mk.injEq] at hzz
  obtain ⟨hz0, hz1, hz2⟩ := hzz
  have hlen : n + m ≤ 140737488355328 := Nat.le_trans (Nat.le_mul_of_pos_right _ hb0) hl
  have hrun : ∃ v1 w1, (Builtin.append_ #[t, t] o.type #[v, v2]).run P w = .ok v1 w1 ∧ w1.ownsRow base e size v1 (n + m) (xs ++ ys) ∧ w.grownBy w1 v.ownBlock := by
    rcases H2.2 with ⟨rfl, rfl⟩ | ⟨g, cap, cur, rfl, _⟩
    · obtain rfl : ys = [] := List.eq_nil_of_length_eq_zero (by have := H2.1; omega)
      refine ⟨v, w, ?_, by simpa using HO, World.grownBy.refl w _⟩
      rcases HO.2 with ⟨rfl, hn⟩ | ⟨g, cap, cur, rfl, _, _, hnc, _⟩
      · simp [Builtin.append_, run_underlying ht, sizeOf, typeInfo, hi, Builtin.lenOf, Builtin.firstCells]
      · simp [Builtin.append_, run_underlying ht, sizeOf, typeInfo, hi, Builtin.lenOf, Builtin.firstCells, hnc, storeCells]
    · have hcells : ∀ j u, ys[j]? = some u → w.cell? ((⟨g, 0, none⟩ : Addr).add j) = some u := by
        intro j u hu
        rw [add_plain, H2.cellAt j (by have := (List.getElem?_eq_some_iff.1 hu).1; rw [← H2.1]; exact this)]
        exact hu
      obtain ⟨v1, w1, hr, h2, h3, _, h5⟩ := run_append_own_at (P := P) w base t o.type e i0 z size bytes ht hi hz0 hz1 hz2 hz hs0 v n xs HO ⟨g, 0, none⟩ m cap ys H2.1 hcells
        h1 (by simp only [maxLen]; omega) hl hbase
      exact ⟨v1, w1, hr, h2, h3⟩
  obtain ⟨v1, w1, hr, hown, hg⟩ := hrun
  refine wpList_plain hgd fun K hK => ?_
  unfold Oper.wp execOp
  simp only [ho, resolve, invoke, builtin, Sem.run_bind, Sem.run_pure, Result.andThen_ok, List.map_toArray, List.map_cons, List.map_nil, hs, hx, hr]
  exact hK _ _ (h v1 w1 hown hg)
end
theorem own_struct (W : World) (e : TypeId) (cs : List Value) (k : Nat) (hl : cs.length = k) : (W.alloc (.cells cs.toArray e)).ownsRow W.heap.size e k (.slice (some ⟨W.heap.size, 0, none⟩) 1 1) 1 cs := by
  have h := World.ownsRow_lit (base := W.heap.size) (e := e) (size := k) W cs.toArray 1 (Nat.le_refl _) (by simp [maxLen]) (by simp [hl])
  simpa using h
theorem infoF : (Tryd.prog.info? 64).map (fun i => (i.zero, i.size, i.bytes)) = some (some (.agg z64), 36, 64) := by kernel_rfl
theorem infoP : (Tryd.prog.info? 72).map (fun i => (i.zero, i.size, i.bytes)) = some (some (.agg z72), 35, 56) := by kernel_rfl

/-- A row on its way: i elements read, s is what is left. -/
structure RowRel {α : Type} (one : St → α) (d : St → St) (cells : α → List Value) (E k N : Nat) (s0 : St) (g B : Nat) (W : World) (i : Nat) (xs : List α) (s : St) (v : Value) (wr : World) : Prop where
  hi : i ≤ N
  hx : xs.length = i
  e1 : rrow one d N s0 = xs ++ rrow one d (N - i) s
  e2 : drow d N s0 = drow d (N - i) s
  bs : Bs s.l
  rd : IsRdr wr g s
  ow : wr.ownsRow B E k v i (xs.flatMap cells)
  fr : Fr (fun j => j = g) W wr
theorem RowRel.next {α : Type} {one : St → α} {d : St → St} {cells : α → List Value} {E k N : Nat} {s0 : St} {g B : Nat} {W : World} {i : Nat} {xs : List α} {s : St} {v v' : Value} {wr w' : World}
    (h : RowRel one d cells E k N s0 g B W i xs s v wr) (hlt : i < N) (hb : s.bad = false) (hbs : Bs (d s).l) (hr : IsRdr w' g (d s)) (ho : w'.ownsRow B E k v' (i + 1) (xs.flatMap cells ++ cells (one s))) (hf : Fr (fun j => j = g) W w') :
    RowRel one d cells E k N s0 g B W (i + 1) (xs ++ [one s]) (d s) v' w' := by
  obtain ⟨m, hm⟩ : ∃ m, N - i = m + 1 := ⟨N - i - 1, by omega⟩
  refine ⟨by omega, by simp [h.hx], ?_, ?_, hbs, hr, by simpa using ho, hf⟩
  · rw [h.e1, hm, show N - (i + 1) = m from by omega]
    simp only [rrow, hb, Bool.false_eq_true, if_false]
    simp
  · rw [h.e2, hm, show N - (i + 1) = m from by omega]
    simp only [drow, hb, Bool.false_eq_true, if_false]
theorem rrow_bad {α : Type} (one : St → α) (d : St → St) (n : Nat) {s : St} (h : s.bad = true) : rrow one d n s = [] ∧ drow d n s = s := by
  cases n <;> simp [rrow, drow, h]

set_option maxHeartbeats 2000000 in
set_option maxRecDepth 100000 in
theorem rowF_any (g : Nat) (s : St) (W : World) (h : IsRdr W g s) (hs : Bs s.l) :
    Calls Tryd.prog 45 #[.pointer (some ⟨g, 0, none⟩), .func (.func 46) #[.pointer (some ⟨g, 0, none⟩)] #[]] W fun e W' => ∃ v, e = .returned v ∧ W'.ownsRow W.heap.size 64 36 v (readRow rfresh dfresh s).length ((readRow rfresh dfresh s).flatMap Fre.cells) ∧ IsRdr W' g (leaveRow dfresh s) ∧ Fr (fun j => j = g) W W' := by
  obtain ⟨B, hB⟩ : ∃ B, B = W.heap.size := ⟨_, rfl⟩
  rw [← hB]
  have HB := Lib.hid hB
  have HN := Lib.hid (rnumber_any g 1 s W h hs (by omega) (by omega))
  have HBS := Lib.hid hs
  have HGL := Lib.hid h.lt
  clear h hs hB
  go_enter Tryd.func45, Tryd.ntmps45
  go_wp2_with fail
  refine HN.out.mono ?_
  rintro e w1 ⟨rfl, q1, q2⟩
  have hv := val_bd1 (take_len (k := 1) (s := s)) HBS.out.take_
  obtain ⟨N, hN⟩ : ∃ N : Nat, val (take_ 1 s) = (N : Int) := ⟨(val (take_ 1 s)).toNat, (Int.toNat_of_nonneg hv.1).symm⟩
  rw [hN] at hv ⊢
  have hN2 : (val (take_ 1 s)).toNat = N := by rw [hN]; exact Int.toNat_natCast N
  have R0 : RowRel rfresh dfresh Fre.cells 64 36 N (drop_ 1 s) g B W 0 [] (drop_ 1 s) (.slice none 0 0) w1 :=
    ⟨by omega, rfl, rfl, rfl, HBS.out.drop_, q1, own_nil _ _ _ _, q2⟩
  have HR0 := Lib.hid R0
  have HN2 := Lib.hid hN2
  have hNl : N < 256 := by omega
  clear hN hN2 R0 q1 q2 HN hv
  go_wp2_with fail
  go_loopw [6, 5] (fun v6 v5 wr => ∃ (i : Nat) (xs : List Fre) (st : St), v6 = .int .i64 ((N : Int) - (i : Int)) ∧ Hid (RowRel rfresh dfresh Fre.cells 64 36 N (drop_ 1 s) g B W i xs st v5 wr)) (fun v6 _ _ => (intOf v6).toNat)
  case atStart => exact ⟨0, [], drop_ 1 s, by simp, HR0.out⟩
  case round =>
    obtain ⟨i, xs, st, rfl, HR⟩ := hrel
    have hi := HR.out.hi
    obtain ⟨A, c, hb, r1, r2, r3, r4⟩ := HR.out.rd
    have c1 := blk_cell hb 1
    simp only [List.getElem?_toArray, List.getElem?_cons_zero, List.getElem?_cons_succ] at c1
    clear hb r1 r2 r3 r4
    obtain ⟨A5, n5, c5, hv5⟩ : ∃ A5 n5 c5, u5 = .slice A5 n5 c5 := by obtain ⟨A, c, e⟩ := own_slice HR.out.ow; exact ⟨A, _, c, e⟩
    subst hv5
    by_cases hlt : i < N
    · have z1 : (0 : Int) < (N : Int) - (i : Int) := by omega
      cases hbad : st.bad
      · rw [hbad] at c1
        have HBD := Lib.hid hbad
        have HF := Lib.hid (rfresh_any g st wr HR.out.rd HR.out.bs)
        clear hbad
        go_wp2_with fail
        refine HF.out.mono ?_
        rintro e w2 ⟨rfl, q1, q2⟩
        have HR2 := Lib.hid q1
        have HF2 := Lib.hid q2
        clear q1 q2 HF
        have hlen : (rfresh st).cells.length = 36 := by simp [Fre.cells, rfresh, take_len]
        have ho2 : w2.ownsRow B 64 36 (.slice A5 n5 c5) i (xs.flatMap Fre.cells) := HF2.out.own HR.out.ow (fun k hk e => by have h1 := own_base HR.out.ow k hk; have h2 := HB.out; have h3 := HGL.out; omega)
        simp only []
        rename_i hKK
        refine hKK _ _ ?_
        refine wpList_slice1 rfl 23 64 (.tmp 22) rfl (rfresh st).cells 36 Tryd.underlying23 zero64 (by omega) (by omega) rfl hlen ?_
        clear hKK
        have HO2 := Lib.hid (ho2.alloc (.cells (rfresh st).cells.toArray 64))
        have HO3 := Lib.hid (own_struct w2 64 (rfresh st).cells 36 hlen)
        have HR3 := Lib.hid (HR2.out.alloc (.cells (rfresh st).cells.toArray 64))
        have HF3 : Hid (Fr (fun j => j = g) W (w2.alloc (.cells (rfresh st).cells.toArray 64))) := (HR.out.fr.trans HF2.out (fun i h => .inl h)).alloc _
        clear ho2 hlen
        generalize w2.alloc _ = w3 at *
        go_wp2_with (at_builtin; refine wpList_append_owns rfl B _ _ _ 23 64 _ 36 64 rfl Tryd.underlying23 infoF rfl (by omega) (by omega) _ _ i 1 _ _ rfl rfl HO2.out HO3.out (rfresh st).one (by rw [HB.out]; exact HF3.out.size) (by omega) ?_)
        intro v1 w4 ho4 hg4
        have hs4 : ∀ k, (Value.slice A5 n5 c5).ownBlock = some k → B ≤ k := fun k hk => own_base HR.out.ow k hk
        have HF4 : Hid (Fr (fun j => j = g) W w4) := HF3.out.grown hg4 (fun k hk => .inr (by have h1 := hs4 k hk; have h2 := HB.out; omega))
        have HR4 : Hid (IsRdr w4 g (dfresh st)) := HR3.out.fr ((Fr.refl (fun k => B ≤ k) w3).grown hg4 (fun k hk => .inl (hs4 k hk))) (fun k hk e => by have h2 := HB.out; have h3 := HGL.out; omega)
        have HRN := Lib.hid (HR.out.next hlt HBD.out (HR.out.bs.drop_.drop_.drop_.drop_) HR4.out ho4 HF4.out)
        clear ho4 hg4 hs4
        go_wp2
        go_roundw
        case rel => exact ⟨i + 1, _, _, by congr 1; omega, HRN.out⟩
        case measure => simp [intOf]; omega
      · rw [hbad] at c1
        have hq := rrow_bad rfresh dfresh (N - i) hbad
        have HQ := Lib.hid hq
        clear hq hbad
        go_wp2
        go_ret
        refine ⟨_, rfl, ?_, ?_, HR.out.fr⟩
        · have e := HR.out.e1
          rw [HQ.out.1, List.append_nil] at e
          unfold readRow
          rw [HN2.out, e, HR.out.hx]
          exact HR.out.ow
        · have e := HR.out.e2
          rw [HQ.out.2] at e
          unfold leaveRow
          rw [HN2.out, e]
          exact HR.out.rd
    · obtain rfl : i = N := by omega
      have z1 : ¬ (0 : Int) < (i : Int) - (i : Int) := by omega
      have e0 : (i : Int) - (i : Int) = 0 := by omega
      rw [e0]
      clear e0 z1
      go_wp2
      go_ret
      refine ⟨_, rfl, ?_, ?_, HR.out.fr⟩
      · have e := HR.out.e1
        rw [Nat.sub_self, rrow, List.append_nil] at e
        unfold readRow
        rw [HN2.out, e, HR.out.hx]
        exact HR.out.ow
      · have e := HR.out.e2
        rw [Nat.sub_self, drow] at e
        unfold leaveRow
        rw [HN2.out, e]
        exact HR.out.rd

set_option maxHeartbeats 2000000 in
set_option maxRecDepth 100000 in
theorem rowP_any (g : Nat) (s : St) (W : World) (h : IsRdr W g s) (hs : Bs s.l) :
    Calls Tryd.prog 47 #[.pointer (some ⟨g, 0, none⟩), .func (.func 48) #[.pointer (some ⟨g, 0, none⟩)] #[]] W fun e W' => ∃ v, e = .returned v ∧ W'.ownsRow W.heap.size 72 35 v (readRow rput dput s).length ((readRow rput dput s).flatMap Pu.cells) ∧ IsRdr W' g (leaveRow dput s) ∧ Fr (fun j => j = g) W W' := by
  obtain ⟨B, hB⟩ : ∃ B, B = W.heap.size := ⟨_, rfl⟩
  rw [← hB]
  have HB := Lib.hid hB
  have HN := Lib.hid (rnumber_any g 1 s W h hs (by omega) (by omega))
  have HBS := Lib.hid hs
  have HGL := Lib.hid h.lt
  clear h hs hB
  go_enter Tryd.func47, Tryd.ntmps47
  go_wp2_with fail
  refine HN.out.mono ?_
  rintro e w1 ⟨rfl, q1, q2⟩
  have hv := val_bd1 (take_len (k := 1) (s := s)) HBS.out.take_
  obtain ⟨N, hN⟩ : ∃ N : Nat, val (take_ 1 s) = (N : Int) := ⟨(val (take_ 1 s)).toNat, (Int.toNat_of_nonneg hv.1).symm⟩
  rw [hN] at hv ⊢
  have hN2 : (val (take_ 1 s)).toNat = N := by rw [hN]; exact Int.toNat_natCast N
  have R0 : RowRel rput dput Pu.cells 72 35 N (drop_ 1 s) g B W 0 [] (drop_ 1 s) (.slice none 0 0) w1 :=
    ⟨by omega, rfl, rfl, rfl, HBS.out.drop_, q1, own_nil _ _ _ _, q2⟩
  have HR0 := Lib.hid R0
  have HN2 := Lib.hid hN2
  have hNl : N < 256 := by omega
  clear hN hN2 R0 q1 q2 HN hv
  go_wp2_with fail
  go_loopw [6, 5] (fun v6 v5 wr => ∃ (i : Nat) (xs : List Pu) (st : St), v6 = .int .i64 ((N : Int) - (i : Int)) ∧ Hid (RowRel rput dput Pu.cells 72 35 N (drop_ 1 s) g B W i xs st v5 wr)) (fun v6 _ _ => (intOf v6).toNat)
  case atStart => exact ⟨0, [], drop_ 1 s, by simp, HR0.out⟩
  case round =>
    obtain ⟨i, xs, st, rfl, HR⟩ := hrel
    have hi := HR.out.hi
    obtain ⟨A, c, hb, r1, r2, r3, r4⟩ := HR.out.rd
    have c1 := blk_cell hb 1
    simp only [List.getElem?_toArray, List.getElem?_cons_zero, List.getElem?_cons_succ] at c1
    clear hb r1 r2 r3 r4
    obtain ⟨A5, n5, c5, hv5⟩ : ∃ A5 n5 c5, u5 = .slice A5 n5 c5 := by obtain ⟨A, c, e⟩ := own_slice HR.out.ow; exact ⟨A, _, c, e⟩
    subst hv5
    by_cases hlt : i < N
    · have z1 : (0 : Int) < (N : Int) - (i : Int) := by omega
      cases hbad : st.bad
      · rw [hbad] at c1
        have HBD := Lib.hid hbad
        have HF := Lib.hid (rput_any g st wr HR.out.rd HR.out.bs)
        clear hbad
        go_wp2_with fail
        refine HF.out.mono ?_
        rintro e w2 ⟨rfl, q1, q2⟩
        have HR2 := Lib.hid q1
        have HF2 := Lib.hid q2
        clear q1 q2 HF
        have hlen : (rput st).cells.length = 35 := by simp [Pu.cells, rput, take_len]
        have ho2 : w2.ownsRow B 72 35 (.slice A5 n5 c5) i (xs.flatMap Pu.cells) := HF2.out.own HR.out.ow (fun k hk e => by have h1 := own_base HR.out.ow k hk; have h2 := HB.out; have h3 := HGL.out; omega)
        simp only []
        rename_i hKK
        refine hKK _ _ ?_
        refine wpList_slice1 rfl 24 72 (.tmp 22) rfl (rput st).cells 35 Tryd.underlying24 zero72 (by omega) (by omega) rfl hlen ?_
        clear hKK
        have HO2 := Lib.hid (ho2.alloc (.cells (rput st).cells.toArray 72))
        have HO3 := Lib.hid (own_struct w2 72 (rput st).cells 35 hlen)
        have HR3 := Lib.hid (HR2.out.alloc (.cells (rput st).cells.toArray 72))
        have HF3 : Hid (Fr (fun j => j = g) W (w2.alloc (.cells (rput st).cells.toArray 72))) := (HR.out.fr.trans HF2.out (fun i h => .inl h)).alloc _
        clear ho2 hlen
        generalize w2.alloc _ = w3 at *
        go_wp2_with (at_builtin; refine wpList_append_owns rfl B _ _ _ 24 72 _ 35 56 rfl Tryd.underlying24 infoP rfl (by omega) (by omega) _ _ i 1 _ _ rfl rfl HO2.out HO3.out (rput st).one (by rw [HB.out]; exact HF3.out.size) (by omega) ?_)
        intro v1 w4 ho4 hg4
        have hs4 : ∀ k, (Value.slice A5 n5 c5).ownBlock = some k → B ≤ k := fun k hk => own_base HR.out.ow k hk
        have HF4 : Hid (Fr (fun j => j = g) W w4) := HF3.out.grown hg4 (fun k hk => .inr (by have h1 := hs4 k hk; have h2 := HB.out; omega))
        have HR4 : Hid (IsRdr w4 g (dput st)) := HR3.out.fr ((Fr.refl (fun k => B ≤ k) w3).grown hg4 (fun k hk => .inl (hs4 k hk))) (fun k hk e => by have h2 := HB.out; have h3 := HGL.out; omega)
        have HRN := Lib.hid (HR.out.next hlt HBD.out (HR.out.bs.drop_.drop_.drop_.drop_) HR4.out ho4 HF4.out)
        clear ho4 hg4 hs4
        go_wp2
        go_roundw
        case rel => exact ⟨i + 1, _, _, by congr 1; omega, HRN.out⟩
        case measure => simp [intOf]; omega
      · rw [hbad] at c1
        have hq := rrow_bad rput dput (N - i) hbad
        have HQ := Lib.hid hq
        clear hq hbad
        go_wp2
        go_ret
        refine ⟨_, rfl, ?_, ?_, HR.out.fr⟩
        · have e := HR.out.e1
          rw [HQ.out.1, List.append_nil] at e
          unfold readRow
          rw [HN2.out, e, HR.out.hx]
          exact HR.out.ow
        · have e := HR.out.e2
          rw [HQ.out.2] at e
          unfold leaveRow
          rw [HN2.out, e]
          exact HR.out.rd
    · obtain rfl : i = N := by omega
      have z1 : ¬ (0 : Int) < (i : Int) - (i : Int) := by omega
      have e0 : (i : Int) - (i : Int) = 0 := by omega
      rw [e0]
      clear e0 z1
      go_wp2
      go_ret
      refine ⟨_, rfl, ?_, ?_, HR.out.fr⟩
      · have e := HR.out.e1
        rw [Nat.sub_self, rrow, List.append_nil] at e
        unfold readRow
        rw [HN2.out, e, HR.out.hx]
        exact HR.out.ow
      · have e := HR.out.e2
        rw [Nat.sub_self, drow] at e
        unfold leaveRow
        rw [HN2.out, e]
        exact HR.out.rd
end Go.Proofs.YtlagkfiafelnnaaDoor
