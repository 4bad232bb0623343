/- op.Get: the op whose bytes these are. -/
import Derived.Test.YtlagkfiafelnnaaDoorRro
set_option linter.unusedVariables false
set_option linter.unusedSimpArgs false
namespace Go.Proofs.YtlagkfiafelnnaaDoor
open Go.RowKit Go.Proofs.YtlagkfiafelnnaaDoorW.PrintWords

theorem small_i64 {n : Nat} {l : List Int} (h : l.length = n) (hb : Bs l) (hn : n ≤ 4) : I64 (val l) := by
  have := val_small h hb hn
  unfold I64
  omega
theorem rfresh_wf (s : St) (hs : Bs s.l) : (rfresh s).wf :=
  ⟨⟨take_len, hs.take_⟩, small_i64 take_len hs.drop_.take_ (by omega), small_i64 take_len hs.drop_.drop_.take_ (by omega), small_i64 take_len hs.drop_.drop_.drop_.take_ (by omega), by unfold I64 rfresh; simp⟩
theorem rput_wf (s : St) (hs : Bs s.l) : (rput s).wf :=
  ⟨small_i64 take_len hs.take_ (by omega), ⟨take_len, hs.drop_.take_⟩, small_i64 take_len hs.drop_.drop_.take_ (by omega), small_i64 take_len hs.drop_.drop_.drop_.take_ (by omega)⟩
theorem rrow_len {α : Type} (one : St → α) (d : St → St) : ∀ (n : Nat) (s : St), (rrow one d n s).length ≤ n
  | 0, _ => by simp [rrow]
  | n + 1, s => by
    unfold rrow
    split
    · simp
    · have := rrow_len one d n (d s)
      simp; omega
theorem readRow_len {α : Type} (one : St → α) (d : St → St) (s : St) (hs : Bs s.l) : (readRow one d s).length ≤ 255 := by
  have h1 := rrow_len one d (val (take_ 1 s)).toNat (drop_ 1 s)
  have h2 := val_bd1 (take_len (k := 1) (s := s)) hs.take_
  unfold readRow
  omega
theorem readF_wf (s : St) (hs : Bs s.l) : (∀ f ∈ readRow rfresh dfresh s, f.wf) ∧ Bs (leaveRow dfresh s).l := rrow_all rfresh_wf (fun s hs => hs.drop_.drop_.drop_.drop_) _ _ hs.drop_
theorem readP_wf (s : St) (hs : Bs s.l) : (∀ f ∈ readRow rput dput s, f.wf) ∧ Bs (leaveRow dput s).l := rrow_all rput_wf (fun s hs => hs.drop_.drop_.drop_.drop_) _ _ hs.drop_
theorem zero26 : (Tryd.prog.info? 26).map (fun i => (i.zero.map (·.cells.size), i.size)) = some (some 6, 6) := by kernel_rfl
theorem size26 : (Tryd.prog.info? 26).map (·.size) = some 6 := by kernel_rfl
def zeroOp : OpV := ⟨0, 0, 0, 0, [], []⟩
def opCells (o : OpV) (vN vP : Value) : Array Value := #[.int .u8 o.kind, .int .i64 o.at_, .int .i64 o.n, .int .i64 o.snap, vN, vP]

theorem opOne (o : OpV) {vN vP : Value} (h1 : vN.oneCell' = true) (h2 : vP.oneCell' = true) : (opCells o vN vP).all (·.oneCell') = true := by
  have e : ∀ (k : IntKind) (n : Int), (Value.int k n).oneCell' = true := fun _ _ => rfl
  simp [opCells, h1, h2, e]
/-- What Get tells. -/
def GetPost (b : List Int) (W : World) (e : Ending) (W' : World) : Prop :=
  Below W.heap.size W W' ∧ (∀ o, pget b = some o → o.wf ∧ ∃ vN vP, e = .returned (.tuple #[opVal o vN vP, .int .i64 0]) ∧ W'.ownsRow W.heap.size 64 36 vN o.news.length (o.news.flatMap Fre.cells) ∧ W'.ownsRow W.heap.size 72 35 vP o.puts.length (o.puts.flatMap Pu.cells)) ∧
    (pget b = none → e = .returned (.tuple #[opVal zeroOp (.slice none 0 0) (.slice none 0 0), .int .i64 4]))

/-- Get, ahead of its end: o is what was read, s what is left. -/
structure GS (B gR g gO : Nat) (W : World) (o : OpV) (vN vP : Value) (s : St) (wr : World) : Prop where
  op : wr.heap[gO]? = some (.cells (opCells o vN vP) 26 (0, 0))
  rs : wr.heap[gR]? = some (.cells (opCells zeroOp (.slice none 0 0) (.slice none 0 0)) 26 (0, 0))
  rd : IsRdr wr g s
  oN : wr.ownsRow B 64 36 vN o.news.length (o.news.flatMap Fre.cells)
  oP : wr.ownsRow B 72 35 vP o.puts.length (o.puts.flatMap Pu.cells)
  wf : o.wf
  lN : o.news.length ≤ 255
  lP : o.puts.length ≤ 255
  bel : Below B W wr

/-- A slice of bytes that is read; its room is no more than a slice may have. -/
def RdsC (W : World) (v : Value) (b : List Int) : Prop := Rds W .u8 v b ∧ ∀ A n c, v = .slice A n c → c ≤ 9223372036854775807
theorem rdr_begin {W W2 : World} {A : Option Addr} {c g : Nat} {b : List Int} (h : RdsC W (.slice A b.length c) b) (hb : Below W.heap.size W W2) (hg : W.heap.size ≤ g) (hk : W2.heap[g]? = some (.cells #[.slice A b.length c, .bool false] 104 (0, 0))) : IsRdr W2 g ⟨b, false⟩ := by
  obtain ⟨⟨A', c', e, h1, h2, h3⟩, hc⟩ := h
  have hc' := hc _ _ _ rfl
  injection e with e1 e2 e3
  subst e1 e3
  refine ⟨A, c, hk, h1, hc', h2, fun hp => ?_⟩
  obtain ⟨ad, rfl, hcells⟩ := h3.2.2 hp
  obtain ⟨bn, off, spot⟩ := ad
  have hspot : spot = none := by simpa [Addr.add] using World.cell?_spot (hcells 0 hp)
  subst hspot
  have hlt : bn < W.heap.size := by
    have := World.block_lt_of_cell? W _ (hcells 0 hp)
    rwa [Addr.add_mid] at this
  refine ⟨bn, off, rfl, by omega, fun j v hj => ?_⟩
  rw [List.getElem?_map, Option.map_eq_some_iff] at hj
  obtain ⟨x, hx, rfl⟩ := hj
  have hjl := (List.getElem?_eq_some_iff.1 hx).1
  have := hcells j hjl
  rw [Addr.add_mid, List.getD_eq_getElem?_getD, hx, Option.getD_some] at this
  exact pw_cell_below hb this
theorem own_rdsF {W : World} {B : Nat} {v : Value} {fs : List Fre} (h : W.ownsRow B 64 36 v fs.length (fs.flatMap Fre.cells)) (hw : ∀ f ∈ fs, f.wf) : RdsF W v fs := ⟨own_rdsN h, hw⟩
theorem own_rdsP {W : World} {B : Nat} {v : Value} {fs : List Pu} (h : W.ownsRow B 72 35 v fs.length (fs.flatMap Pu.cells)) (hw : ∀ f ∈ fs, f.wf) : RdsP W v fs := ⟨own_rdsN h, hw⟩

theorem results_cell_tmp {P : Program} {fn : Func} {p u : Tmp} {ty : TypeId} (h : fn.results = #[.cell p ty, .tmp u]) (tmps : Array Value) (w : World) (g : Nat) (t : TypeId) (cs : Array Value) (fr : Nat × Nat) (d : TypeDesc)
    (hp : tmps.getD p undef = .pointer (some ⟨g, 0, none⟩)) (hg : w.heap[g]? = some (.cells cs t fr))
    (hu : P.underlying ty = some d) (hd : (match d with | .struct _ | .array _ _ => true | _ => false) = true) (hi : (P.info? ty).map (·.size) = some cs.size) :
    (results fn tmps).run P w = .ok (.tuple #[.agg cs, tmps.getD u undef]) w := by
  have hp' : tmps[p]?.getD undef = .pointer (some ⟨g, 0, none⟩) := by simpa using hp
  simp [results, h, hp', asAddr, run_loadVar_row w g t ty cs fr d hg hu hd hi]


theorem own_oneCell {W : World} {B n s : Nat} {e : TypeId} {v : Value} {xs : List Value} (h : W.ownsRow B e s v n xs) : v.oneCell' = true := by
  obtain ⟨A, c, rfl⟩ := own_slice h
  rfl
theorem GS.fr {B gR g gO : Nat} {W w w' : World} {o : OpV} {vN vP : Value} {s s' : St} (h : GS B gR g gO W o vN vP s w) (hf : Fr (fun k => k = g) w w') (hr : IsRdr w' g s') (hO : gO ≠ g) (hR : gR ≠ g) (hB : B ≤ g) (hBw : B ≤ w.heap.size) : GS B gR g gO W o vN vP s' w' := by
  obtain ⟨A, c, h0, _⟩ := h.rd
  have nN : ∀ k, vN.ownBlock = some k → ¬ k = g := fun k hk e => by
    obtain ⟨cells, hc⟩ := own_typed h.oN k hk
    rw [e, h0] at hc
    simp at hc
  have nP : ∀ k, vP.ownBlock = some k → ¬ k = g := fun k hk e => by
    obtain ⟨cells, hc⟩ := own_typed h.oP k hk
    rw [e, h0] at hc
    simp at hc
  exact ⟨hf.heap h.op hO, hf.heap h.rs hR, hr, hf.own h.oN nN, hf.own h.oP nP, h.wf, h.lN, h.lP, Fr.then_below h.bel hf hBw (by rintro k rfl; exact hB)⟩
/-- A store into the op's own block. -/
theorem GS.set {B gR g gO j : Nat} {W w : World} {o o' : OpV} {vN vP vN' vP' u : Value} {s : St} (h : GS B gR g gO W o vN vP s w) (hg : g < gO) (hR : gR < gO) (hB : B ≤ gO)
    (hc : (opCells o vN vP).setIfInBounds j u = opCells o' vN' vP') (hN : w.ownsRow B 64 36 vN' o'.news.length (o'.news.flatMap Fre.cells)) (hP : w.ownsRow B 72 35 vP' o'.puts.length (o'.puts.flatMap Pu.cells))
    (hw : o'.wf) (lN : o'.news.length ≤ 255) (lP : o'.puts.length ≤ 255) : GS B gR g gO W o' vN' vP' s (w.setCell ⟨gO, j, none⟩ u) := by
  have hf : Fr (fun k => k = gO) w (w.setCell ⟨gO, j, none⟩ u) := (Fr.refl (fun k => k = gO) w).set (p := ⟨gO, j, none⟩) (.inl rfl) u
  have nN : ∀ k, vN'.ownBlock = some k → ¬ k = gO := fun k hk e => by
    obtain ⟨cells, hc⟩ := own_typed hN k hk
    rw [e, h.op] at hc
    simp at hc
  have nP : ∀ k, vP'.ownBlock = some k → ¬ k = gO := fun k hk e => by
    obtain ⟨cells, hc⟩ := own_typed hP k hk
    rw [e, h.op] at hc
    simp at hc
  refine ⟨by rw [← hc]; exact blk_set h.op j u, hf.heap h.rs (by omega), h.rd.fr hf (fun k hk e => by omega), hf.own hN nN, hf.own hP nP, hw, lN, lP, Fr.then_below h.bel hf (by have := blk_lt h.op; omega) (by rintro k rfl; exact hB)⟩

set_option maxHeartbeats 2000000 in
set_option maxRecDepth 100000 in
theorem get_three (v : Value) (b : List Int) (W : World) (hv : RdsC W v b) (hb : Bs b) (h1 : val (take_ 1 ⟨b, false⟩) ≠ 1) (h2 : val (take_ 1 ⟨b, false⟩) ≠ 2) :
    Calls Tryd.prog 19 #[v] W (GetPost b W) := by
  obtain ⟨A, c, rfl⟩ : ∃ A c, v = .slice A b.length c := by obtain ⟨⟨A, c, e, _⟩, _⟩ := hv; exact ⟨A, c, e⟩
  have hbv := val_bd1 (take_len (k := 1) (s := ⟨b, false⟩)) (Bs.take_ (s := ⟨b, false⟩) hb)
  have hb1 : Bs (drop_ 1 ⟨b, false⟩).l := Bs.drop_ (s := ⟨b, false⟩) hb
  have H1 := Lib.hid h1
  have H2 := Lib.hid h2
  clear h1 h2
  have HV := Lib.hid hv
  have HBS := Lib.hid hb
  have HB1 := Lib.hid hb1
  clear hv hb hb1
  go_enter Tryd.func19, Tryd.ntmps19
  go_upto_region 2 with fail
  obtain ⟨W2, hW2⟩ : ∃ W2, W2 = (W.alloc (.cells #[.int .u8 0, .int .i64 0, .int .i64 0, .int .i64 0, .slice none 0 0, .slice none 0 0] 26)).alloc (.cells #[.slice A b.length c, .bool false] 104) := ⟨_, rfl⟩
  rw [← hW2]
  have bel2 : Below W.heap.size W W2 := by rw [hW2]; exact ((Below.refl _ _).alloc (Nat.le_refl _) _).alloc (by simp) _
  have hr2 : W2.heap[W.heap.size]? = some (.cells (opCells zeroOp (.slice none 0 0) (.slice none 0 0)) 26 (0, 0)) := by rw [hW2]; exact blk_alloc (heap_alloc_new W _) _
  have hg2 : W2.heap[W.heap.size + 1]? = some (.cells #[.slice A b.length c, .bool false] 104 (0, 0)) := by
    rw [hW2]
    have := heap_alloc_new (W.alloc (.cells #[.int .u8 0, .int .i64 0, .int .i64 0, .int .i64 0, .slice none 0 0, .slice none 0 0] 26)) (.cells #[.slice A b.length c, .bool false] 104)
    simpa using this
  have hz2 : W2.heap.size = W.heap.size + 2 := by rw [hW2]; simp
  have hrd := rdr_begin HV.out bel2 (Nat.le_succ _) hg2
  obtain ⟨B, hB⟩ : ∃ B, B = W.heap.size := ⟨_, rfl⟩
  rw [← hB] at bel2 hr2 hrd hz2 ⊢
  have HB := Lib.hid hB
  have HN := Lib.hid (rnumber_any (B + 1) 1 _ W2 hrd HBS.out (by omega) (by omega))
  have HBEL2 := Lib.hid bel2
  have HRS2 := Lib.hid hr2
  clear hW2 hg2 hB bel2 hr2 hrd
  have HZ2 := Lib.hid hz2
  clear hz2
  go_wp2_with fail
  refine HN.out.mono ?_
  rintro e w3 ⟨rfl, q1, q2⟩
  have HR3 := Lib.hid q1
  have hr3 := q2.heap HRS2.out (by omega)
  have HRS3 := Lib.hid hr3
  have HBEL3 : Hid (Below B W w3) := Fr.then_below HBEL2.out q2 (by have := HZ2.out; omega) (by rintro i rfl; omega)
  have hz3 : B + 2 ≤ w3.heap.size := by have := HZ2.out; have := q2.size; omega
  clear q1 q2 hr3 HN
  obtain ⟨k, hk⟩ : ∃ k, k = val (take_ 1 ⟨b, false⟩) := ⟨_, rfl⟩
  rw [← hk] at hbv ⊢
  have HK := Lib.hid hk
  have e1 : (k == 1) = false := by have := H1.out; rw [hk]; simp [this]
  have e2 : (k == 2) = false := by have := H2.out; rw [hk]; simp [this]
  clear hk
  obtain ⟨hbv1, hbv2⟩ := hbv
  go_upto_region 3 with (refine wpList_alloc_store rfl rfl 26 rfl 5 rfl (.tmp 12) rfl rfl 6 zero26 _ rfl rfl rfl rfl ?_)
  obtain ⟨gO, hgO⟩ : ∃ gO, gO = w3.heap.size := ⟨_, rfl⟩
  rw [← hgO]
  generalize hw4 : w3.alloc _ = w4
  have hop4 : w4.heap[gO]? = some (.cells (opCells ⟨k, 0, 0, 0, [], []⟩ (.slice none 0 0) (.slice none 0 0)) 26 (0, 0)) := by rw [← hw4, hgO]; exact heap_alloc_new w3 _
  have gs : GS B B (B + 1) gO W ⟨k, 0, 0, 0, [], []⟩ (.slice none 0 0) (.slice none 0 0) (drop_ 1 ⟨b, false⟩) w4 := by
    refine ⟨hop4, by rw [← hw4]; exact blk_alloc HRS3.out _, by rw [← hw4]; exact HR3.out.alloc _, own_nil _ _ _ _, own_nil _ _ _ _, ⟨⟨by dsimp only; omega, by dsimp only; omega⟩, by unfold I64; simp, by unfold I64; simp, by unfold I64; simp, by simp, by simp⟩, by simp, by simp, ?_⟩
    rw [← hw4]
    exact HBEL3.out.alloc (by omega) _
  have hgO2 : B + 2 ≤ gO := by omega
  clear hw4 hgO hop4 HR3 HRS3 HBEL3 hz3
  have HG := Lib.hid gs
  clear gs
  have n0 := blk_cell HG.out.op 0
  simp only [opCells, List.getElem?_toArray, List.getElem?_cons_zero] at n0
  have HN := Lib.hid (rnumber_any (B + 1) 4 _ w4 HG.out.rd HB1.out (by omega) (by omega))
  go_wp2_with fail
  refine HN.out.mono ?_
  rintro e w5 ⟨rfl, q1, q2⟩
  have HG5 := Lib.hid (HG.out.fr q2 q1 (by omega) (by omega) (by omega) (by have := blk_lt HG.out.op; omega))
  clear q1 q2 HN n0 HG
  have y3 : ∃ u, w5.cell? ⟨gO, 3, none⟩ = some u := ⟨_, by rw [blk_cell HG5.out.op]; rfl⟩
  obtain ⟨u3, y3⟩ := y3
  have z3 := blk_frozen HG5.out.op 3
  go_upto_region 10 with fail
  have hval := small_i64 (take_len (k := 4) (s := drop_ 1 ⟨b, false⟩)) HB1.out.take_ (by omega)
  have HG6 : Hid (GS B B (B + 1) gO W ⟨k, 0, 0, val (take_ 4 (drop_ 1 ⟨b, false⟩)), [], []⟩ (.slice none 0 0) (.slice none 0 0) (drop_ 4 (drop_ 1 ⟨b, false⟩)) (w5.setCell ⟨gO, 3, none⟩ (.int .i64 (val (take_ 4 (drop_ 1 ⟨b, false⟩)))))) :=
    HG5.out.set (by omega) (by omega) (by omega) rfl HG5.out.oN HG5.out.oP ⟨⟨hbv1, hbv2⟩, by unfold I64; simp, by unfold I64; simp, hval, by simp, by simp⟩ (by simp) (by simp)
  clear HG5 y3 z3 hval
  generalize w5.setCell _ _ = w6 at *
  obtain ⟨o, ho⟩ : ∃ o : OpV, o = ⟨k, 0, 0, val (take_ 4 (drop_ 1 ⟨b, false⟩)), [], []⟩ := ⟨_, rfl⟩
  obtain ⟨st, hst⟩ : ∃ st, st = drop_ 4 (drop_ 1 ⟨b, false⟩) := ⟨_, rfl⟩
  rw [← ho, ← hst] at HG6
  have hpa : parse ⟨b, false⟩ = (o, st) := by rw [ho, hst]; unfold parse; simp only []; rw [if_neg H1.out, if_neg H2.out, ← HK.out]
  have HPA := Lib.hid hpa
  clear hpa ho hst
  obtain ⟨A9, c9, hb9, r1, r2, r3, r4⟩ := HG6.out.rd
  have m0 := blk_cell hb9 0
  have m1 := blk_cell hb9 1
  have n0 := blk_cell HG6.out.op 0
  have n1 := blk_cell HG6.out.op 1
  have n2 := blk_cell HG6.out.op 2
  have n3 := blk_cell HG6.out.op 3
  have n4 := blk_cell HG6.out.op 4
  have n5 := blk_cell HG6.out.op 5
  simp only [opCells, List.getElem?_toArray, List.getElem?_cons_zero, List.getElem?_cons_succ] at m0 m1 n0 n1 n2 n3 n4 n5
  have hrc := right_any o (.slice none 0 0) (.slice none 0 0) w6 (own_rdsF HG6.out.oN HG6.out.wf.2.2.2.2.1) (own_rdsP HG6.out.oP HG6.out.wf.2.2.2.2.2) (by have := HG6.out.lN; omega) (by have := HG6.out.lP; omega)
  unfold opVal at hrc
  have HRC := Lib.hid hrc
  have hBw : B ≤ w6.heap.size := by have := blk_lt HG6.out.op; omega
  clear hrc hb9 r1 r2 r3 r4
  have hnone : (st.bad = true ∨ 0 < st.l.length ∨ right o = false) → pget b = none := fun h => by
    unfold pget
    rw [HPA.out]
    rw [if_pos]
    rcases h with h | h | h <;> simp [h]
  have HNONE := Lib.hid hnone
  clear hnone
  have hs26 : ∀ (o : OpV) (vN vP : Value), (Tryd.prog.info? 26).map (·.size) = some (opCells o (.slice none 0 0) (.slice none 0 0)).size := fun _ _ _ => size26
  have HS26 := Lib.hid hs26
  clear hs26
  cases hbd : st.bad
  · rw [hbd] at m1
    by_cases hln : 0 < st.l.length
    · have z1 : (0 : Int) < (st.l.length : Int) := by omega
      have z0 : decide (0 < st.l.length) = true := decide_eq_true hln
      have HN9 := Lib.hid (HNONE.out (.inr (.inl hln)))
      clear hbd
      go_wp2_with (refine wpList_store_blk rfl 26 _ _ rfl B _ #[.int .u8 0, .int .i64 0, .int .i64 0, .int .i64 0, .slice none 0 0, .slice none 0 0] 26 rfl rfl HG6.out.rs rfl (HS26.out zeroOp (.slice none 0 0) (.slice none 0 0)) (opOne zeroOp rfl rfl) ?_)
      intro w8 k8 fr8
      have HK8 := Lib.hid k8
      have HF8 := Lib.hid fr8
      clear k8 fr8
      go_wp2
      refine bodyPost_ret_by (results_cell_tmp rfl _ _ B 26 (opCells zeroOp (.slice none 0 0) (.slice none 0 0)) (0, 0) _ rfl HK8.out Tryd.underlying26 rfl (HS26.out zeroOp (.slice none 0 0) (.slice none 0 0))) rfl ⟨?_, (fun o' h' => by rw [HN9.out] at h'; cases h'), fun _ => rfl⟩
      rw [← HB.out]
      exact Fr.then_below HG6.out.bel HF8.out hBw (by rintro i rfl; exact Nat.le_refl _)
    · have hl0 : st.l.length = 0 := by omega
      have z1 : ¬ (0 : Int) < (st.l.length : Int) := by omega
      have z0 : decide (0 < st.l.length) = false := decide_eq_false hln
      cases hro : right o
      · have HN9 := Lib.hid (HNONE.out (.inr (.inr hro)))
        have HRO := Lib.hid hro
        rw [hro] at HRC
        clear hln hbd hl0 hro
        go_wp2_with fail
        refine HRC.out.mono ?_
        rintro e w' ⟨rfl, hb'⟩
        have HB' := Lib.hid hb'
        have HRS' := Lib.hid ((hb'.block B (blk_lt HG6.out.rs)).trans HG6.out.rs)
        clear hb'
        go_wp2_with (refine wpList_store_blk rfl 26 _ _ rfl B _ #[.int .u8 0, .int .i64 0, .int .i64 0, .int .i64 0, .slice none 0 0, .slice none 0 0] 26 rfl rfl HRS'.out rfl (HS26.out zeroOp (.slice none 0 0) (.slice none 0 0)) (opOne zeroOp rfl rfl) ?_)
        intro w8 k8 fr8
        have HK8 := Lib.hid k8
        have HF8 := Lib.hid fr8
        clear k8 fr8
        go_wp2
        refine bodyPost_ret_by (results_cell_tmp rfl _ _ B 26 (opCells zeroOp (.slice none 0 0) (.slice none 0 0)) (0, 0) _ rfl HK8.out Tryd.underlying26 rfl (HS26.out zeroOp (.slice none 0 0) (.slice none 0 0))) rfl ⟨?_, (fun o' h' => by rw [HN9.out] at h'; cases h'), fun _ => rfl⟩
        rw [← HB.out]
        exact Fr.then_below (HG6.out.bel.trans (HB'.out.mono hBw)) HF8.out (by have := HB'.out.size; omega) (by rintro i rfl; exact Nat.le_refl _)
      · have hsome : pget b = some o := by
          unfold pget
          rw [HPA.out, if_neg (by simp [hbd, hl0, hro])]
        have HSOME := Lib.hid hsome
        rw [hro] at HRC
        clear hln hbd hl0 hro hsome
        go_wp2_with fail
        refine HRC.out.mono ?_
        rintro e w' ⟨rfl, hb'⟩
        have HB' := Lib.hid hb'
        have HRS' := Lib.hid ((hb'.block B (blk_lt HG6.out.rs)).trans HG6.out.rs)
        have HOP' := Lib.hid ((hb'.block gO (blk_lt HG6.out.op)).trans HG6.out.op)
        clear hb'
        go_wp2_with (first | refine wpList_load_row rfl 26 _ rfl gO rfl 26 (opCells o (.slice none 0 0) (.slice none 0 0)) (0, 0) _ HOP'.out Tryd.underlying26 rfl (HS26.out o (.slice none 0 0) (.slice none 0 0)) ?_ | refine wpList_store_blk rfl 26 _ _ rfl B _ (opCells o (.slice none 0 0) (.slice none 0 0)) 26 rfl rfl HRS'.out rfl (HS26.out o (.slice none 0 0) (.slice none 0 0)) (opOne o (own_oneCell HG6.out.oN) (own_oneCell HG6.out.oP)) ?_)
        intro w8 k8 fr8
        have HK8 := Lib.hid k8
        have HF8 := Lib.hid fr8
        clear k8 fr8
        go_wp2
        refine bodyPost_ret_by (results_cell_tmp rfl _ _ B 26 (opCells o (.slice none 0 0) (.slice none 0 0)) (0, 0) _ rfl HK8.out Tryd.underlying26 rfl (HS26.out o (.slice none 0 0) (.slice none 0 0))) rfl ⟨?_, fun o' h' => ?_, (fun h' => by rw [HSOME.out] at h'; cases h')⟩
        · rw [← HB.out]
          exact Fr.then_below (HG6.out.bel.trans (HB'.out.mono hBw)) HF8.out (by have := HB'.out.size; omega) (by rintro i rfl; exact Nat.le_refl _)
        · rw [HSOME.out] at h'
          obtain rfl := Option.some.inj h'
          have g1 := HF8.out.own ((pw_own_below HG6.out.oN HB'.out)) (fun k hk e => by
            obtain ⟨cells, hc⟩ := own_typed HG6.out.oN k hk
            rw [e, HG6.out.rs] at hc
            simp at hc)
          have g2 := HF8.out.own ((pw_own_below HG6.out.oP HB'.out)) (fun k hk e => by
            obtain ⟨cells, hc⟩ := own_typed HG6.out.oP k hk
            rw [e, HG6.out.rs] at hc
            simp at hc)
          rw [HB.out] at g1 g2
          exact ⟨HG6.out.wf, _, _, rfl, g1, g2⟩
  · rw [hbd] at m1
    have HN9 := Lib.hid (HNONE.out (.inl hbd))
    clear hbd
    go_wp2_with (refine wpList_store_blk rfl 26 _ _ rfl B _ #[.int .u8 0, .int .i64 0, .int .i64 0, .int .i64 0, .slice none 0 0, .slice none 0 0] 26 rfl rfl HG6.out.rs rfl (HS26.out zeroOp (.slice none 0 0) (.slice none 0 0)) (opOne zeroOp rfl rfl) ?_)
    intro w8 k8 fr8
    have HK8 := Lib.hid k8
    have HF8 := Lib.hid fr8
    clear k8 fr8
    go_wp2
    refine bodyPost_ret_by (results_cell_tmp rfl _ _ B 26 (opCells zeroOp (.slice none 0 0) (.slice none 0 0)) (0, 0) _ rfl HK8.out Tryd.underlying26 rfl (HS26.out zeroOp (.slice none 0 0) (.slice none 0 0))) rfl ⟨?_, (fun o' h' => by rw [HN9.out] at h'; cases h'), fun _ => rfl⟩
    rw [← HB.out]
    exact Fr.then_below HG6.out.bel HF8.out hBw (by rintro i rfl; exact Nat.le_refl _)

set_option maxHeartbeats 2000000 in
set_option maxRecDepth 100000 in
theorem get_two (v : Value) (b : List Int) (W : World) (hv : RdsC W v b) (hb : Bs b) (hk : val (take_ 1 ⟨b, false⟩) = 2) :
    Calls Tryd.prog 19 #[v] W (GetPost b W) := by
  obtain ⟨A, c, rfl⟩ : ∃ A c, v = .slice A b.length c := by obtain ⟨⟨A, c, e, _⟩, _⟩ := hv; exact ⟨A, c, e⟩
  have hbv := val_bd1 (take_len (k := 1) (s := ⟨b, false⟩)) (Bs.take_ (s := ⟨b, false⟩) hb)
  have hb1 : Bs (drop_ 1 ⟨b, false⟩).l := Bs.drop_ (s := ⟨b, false⟩) hb
  have HK := Lib.hid hk
  have HV := Lib.hid hv
  have HBS := Lib.hid hb
  have HB1 := Lib.hid hb1
  clear hv hb hb1
  go_enter Tryd.func19, Tryd.ntmps19
  go_upto_region 2 with fail
  obtain ⟨W2, hW2⟩ : ∃ W2, W2 = (W.alloc (.cells #[.int .u8 0, .int .i64 0, .int .i64 0, .int .i64 0, .slice none 0 0, .slice none 0 0] 26)).alloc (.cells #[.slice A b.length c, .bool false] 104) := ⟨_, rfl⟩
  rw [← hW2]
  have bel2 : Below W.heap.size W W2 := by rw [hW2]; exact ((Below.refl _ _).alloc (Nat.le_refl _) _).alloc (by simp) _
  have hr2 : W2.heap[W.heap.size]? = some (.cells (opCells zeroOp (.slice none 0 0) (.slice none 0 0)) 26 (0, 0)) := by rw [hW2]; exact blk_alloc (heap_alloc_new W _) _
  have hg2 : W2.heap[W.heap.size + 1]? = some (.cells #[.slice A b.length c, .bool false] 104 (0, 0)) := by
    rw [hW2]
    have := heap_alloc_new (W.alloc (.cells #[.int .u8 0, .int .i64 0, .int .i64 0, .int .i64 0, .slice none 0 0, .slice none 0 0] 26)) (.cells #[.slice A b.length c, .bool false] 104)
    simpa using this
  have hz2 : W2.heap.size = W.heap.size + 2 := by rw [hW2]; simp
  have hrd := rdr_begin HV.out bel2 (Nat.le_succ _) hg2
  obtain ⟨B, hB⟩ : ∃ B, B = W.heap.size := ⟨_, rfl⟩
  rw [← hB] at bel2 hr2 hrd hz2 ⊢
  have HB := Lib.hid hB
  have HN := Lib.hid (rnumber_any (B + 1) 1 _ W2 hrd HBS.out (by omega) (by omega))
  have HBEL2 := Lib.hid bel2
  have HRS2 := Lib.hid hr2
  clear hW2 hg2 hB bel2 hr2 hrd
  have HZ2 := Lib.hid hz2
  clear hz2
  go_wp2_with fail
  refine HN.out.mono ?_
  rintro e w3 ⟨rfl, q1, q2⟩
  have HR3 := Lib.hid q1
  have hr3 := q2.heap HRS2.out (by omega)
  have HRS3 := Lib.hid hr3
  have HBEL3 : Hid (Below B W w3) := Fr.then_below HBEL2.out q2 (by have := HZ2.out; omega) (by rintro i rfl; omega)
  have hz3 : B + 2 ≤ w3.heap.size := by have := HZ2.out; have := q2.size; omega
  clear q1 q2 hr3 HN
  rw [HK.out] at hbv ⊢
  clear hk
  clear hbv
  go_upto_region 3 with (refine wpList_alloc_store rfl rfl 26 rfl 5 rfl (.tmp 12) rfl rfl 6 zero26 _ rfl rfl rfl rfl ?_)
  obtain ⟨gO, hgO⟩ : ∃ gO, gO = w3.heap.size := ⟨_, rfl⟩
  rw [← hgO]
  generalize hw4 : w3.alloc _ = w4
  have hop4 : w4.heap[gO]? = some (.cells (opCells ⟨2, 0, 0, 0, [], []⟩ (.slice none 0 0) (.slice none 0 0)) 26 (0, 0)) := by rw [← hw4, hgO]; exact heap_alloc_new w3 _
  have gs : GS B B (B + 1) gO W ⟨2, 0, 0, 0, [], []⟩ (.slice none 0 0) (.slice none 0 0) (drop_ 1 ⟨b, false⟩) w4 := by
    refine ⟨hop4, by rw [← hw4]; exact blk_alloc HRS3.out _, by rw [← hw4]; exact HR3.out.alloc _, own_nil _ _ _ _, own_nil _ _ _ _, ⟨⟨by dsimp only; omega, by dsimp only; omega⟩, by unfold I64; simp, by unfold I64; simp, by unfold I64; simp, by simp, by simp⟩, by simp, by simp, ?_⟩
    rw [← hw4]
    exact HBEL3.out.alloc (by omega) _
  have hgO2 : B + 2 ≤ gO := by omega
  clear hw4 hgO hop4 HR3 HRS3 HBEL3 hz3
  have HG := Lib.hid gs
  clear gs
  have n0 := blk_cell HG.out.op 0
  simp only [opCells, List.getElem?_toArray, List.getElem?_cons_zero] at n0
  have HN := Lib.hid (rnumber_any (B + 1) 2 _ w4 HG.out.rd HB1.out (by omega) (by omega))
  go_wp2_with fail
  refine HN.out.mono ?_
  rintro e w5 ⟨rfl, q1, q2⟩
  have HG5 := Lib.hid (HG.out.fr q2 q1 (by omega) (by omega) (by omega) (by have := blk_lt HG.out.op; omega))
  have HN2 := Lib.hid (rnumber_any (B + 1) 2 _ w5 q1 HB1.out.drop_ (by omega) (by omega))
  clear q1 q2 HN n0 HG
  go_wp2_with fail
  refine HN2.out.mono ?_
  rintro e w7 ⟨rfl, q1, q2⟩
  have HG7 := Lib.hid (HG5.out.fr q2 q1 (by omega) (by omega) (by omega) (by have := blk_lt HG5.out.op; omega))
  clear q1 q2 HN2 HG5
  have y1 : ∃ u, w7.cell? ⟨gO, 1, none⟩ = some u := ⟨_, by rw [blk_cell HG7.out.op]; rfl⟩
  have y2 : ∃ u, w7.cell? ⟨gO, 2, none⟩ = some u := ⟨_, by rw [blk_cell HG7.out.op]; rfl⟩
  obtain ⟨u1, y1⟩ := y1
  obtain ⟨u2, y2⟩ := y2
  have z1 := blk_frozen HG7.out.op 1
  have z2 := blk_frozen HG7.out.op 2
  go_upto_region 10 with fail
  have hval := small_i64 (take_len (k := 2) (s := drop_ 1 ⟨b, false⟩)) HB1.out.take_ (by omega)
  have hval2 := small_i64 (take_len (k := 2) (s := drop_ 2 (drop_ 1 ⟨b, false⟩))) HB1.out.drop_.take_ (by omega)
  have i0 : I64 0 := by unfold I64; omega
  have HG8 : Hid (GS B B (B + 1) gO W ⟨2, val (take_ 2 (drop_ 1 ⟨b, false⟩)), 0, 0, [], []⟩ (.slice none 0 0) (.slice none 0 0) (drop_ 2 (drop_ 2 (drop_ 1 ⟨b, false⟩))) (w7.setCell ⟨gO, 1, none⟩ (.int .i64 (val (take_ 2 (drop_ 1 ⟨b, false⟩)))))) :=
    HG7.out.set (by omega) (by omega) (by omega) rfl HG7.out.oN HG7.out.oP ⟨⟨by dsimp only; omega, by dsimp only; omega⟩, hval, i0, i0, by simp, by simp⟩ (by simp) (by simp)
  have HG6 : Hid (GS B B (B + 1) gO W ⟨2, val (take_ 2 (drop_ 1 ⟨b, false⟩)), val (take_ 2 (drop_ 2 (drop_ 1 ⟨b, false⟩))), 0, [], []⟩ (.slice none 0 0) (.slice none 0 0) (drop_ 2 (drop_ 2 (drop_ 1 ⟨b, false⟩))) ((w7.setCell ⟨gO, 1, none⟩ (.int .i64 (val (take_ 2 (drop_ 1 ⟨b, false⟩))))).setCell ⟨gO, 2, none⟩ (.int .i64 (val (take_ 2 (drop_ 2 (drop_ 1 ⟨b, false⟩))))))) :=
    HG8.out.set (by omega) (by omega) (by omega) rfl HG8.out.oN HG8.out.oP ⟨⟨by dsimp only; omega, by dsimp only; omega⟩, hval, hval2, i0, by simp, by simp⟩ (by simp) (by simp)
  clear HG7 HG8 y1 y2 z1 z2 hval hval2 i0
  generalize (w7.setCell _ _).setCell _ _ = w6 at *
  obtain ⟨o, ho⟩ : ∃ o : OpV, o = ⟨2, val (take_ 2 (drop_ 1 ⟨b, false⟩)), val (take_ 2 (drop_ 2 (drop_ 1 ⟨b, false⟩))), 0, [], []⟩ := ⟨_, rfl⟩
  obtain ⟨st, hst⟩ : ∃ st, st = drop_ 2 (drop_ 2 (drop_ 1 ⟨b, false⟩)) := ⟨_, rfl⟩
  rw [← ho, ← hst] at HG6
  have hpa : parse ⟨b, false⟩ = (o, st) := by rw [ho, hst]; unfold parse; simp [HK.out]
  have HPA := Lib.hid hpa
  clear hpa ho hst
  obtain ⟨A9, c9, hb9, r1, r2, r3, r4⟩ := HG6.out.rd
  have m0 := blk_cell hb9 0
  have m1 := blk_cell hb9 1
  have n0 := blk_cell HG6.out.op 0
  have n1 := blk_cell HG6.out.op 1
  have n2 := blk_cell HG6.out.op 2
  have n3 := blk_cell HG6.out.op 3
  have n4 := blk_cell HG6.out.op 4
  have n5 := blk_cell HG6.out.op 5
  simp only [opCells, List.getElem?_toArray, List.getElem?_cons_zero, List.getElem?_cons_succ] at m0 m1 n0 n1 n2 n3 n4 n5
  have hrc := right_any o (.slice none 0 0) (.slice none 0 0) w6 (own_rdsF HG6.out.oN HG6.out.wf.2.2.2.2.1) (own_rdsP HG6.out.oP HG6.out.wf.2.2.2.2.2) (by have := HG6.out.lN; omega) (by have := HG6.out.lP; omega)
  unfold opVal at hrc
  have HRC := Lib.hid hrc
  have hBw : B ≤ w6.heap.size := by have := blk_lt HG6.out.op; omega
  clear hrc hb9 r1 r2 r3 r4
  have hnone : (st.bad = true ∨ 0 < st.l.length ∨ right o = false) → pget b = none := fun h => by
    unfold pget
    rw [HPA.out]
    rw [if_pos]
    rcases h with h | h | h <;> simp [h]
  have HNONE := Lib.hid hnone
  clear hnone
  have hs26 : ∀ (o : OpV) (vN vP : Value), (Tryd.prog.info? 26).map (·.size) = some (opCells o (.slice none 0 0) (.slice none 0 0)).size := fun _ _ _ => size26
  have HS26 := Lib.hid hs26
  clear hs26
  cases hbd : st.bad
  · rw [hbd] at m1
    by_cases hln : 0 < st.l.length
    · have z1 : (0 : Int) < (st.l.length : Int) := by omega
      have z0 : decide (0 < st.l.length) = true := decide_eq_true hln
      have HN9 := Lib.hid (HNONE.out (.inr (.inl hln)))
      clear hbd
      go_wp2_with (refine wpList_store_blk rfl 26 _ _ rfl B _ #[.int .u8 0, .int .i64 0, .int .i64 0, .int .i64 0, .slice none 0 0, .slice none 0 0] 26 rfl rfl HG6.out.rs rfl (HS26.out zeroOp (.slice none 0 0) (.slice none 0 0)) (opOne zeroOp rfl rfl) ?_)
      intro w8 k8 fr8
      have HK8 := Lib.hid k8
      have HF8 := Lib.hid fr8
      clear k8 fr8
      go_wp2
      refine bodyPost_ret_by (results_cell_tmp rfl _ _ B 26 (opCells zeroOp (.slice none 0 0) (.slice none 0 0)) (0, 0) _ rfl HK8.out Tryd.underlying26 rfl (HS26.out zeroOp (.slice none 0 0) (.slice none 0 0))) rfl ⟨?_, (fun o' h' => by rw [HN9.out] at h'; cases h'), fun _ => rfl⟩
      rw [← HB.out]
      exact Fr.then_below HG6.out.bel HF8.out hBw (by rintro i rfl; exact Nat.le_refl _)
    · have hl0 : st.l.length = 0 := by omega
      have z1 : ¬ (0 : Int) < (st.l.length : Int) := by omega
      have z0 : decide (0 < st.l.length) = false := decide_eq_false hln
      cases hro : right o
      · have HN9 := Lib.hid (HNONE.out (.inr (.inr hro)))
        have HRO := Lib.hid hro
        rw [hro] at HRC
        clear hln hbd hl0 hro
        go_wp2_with fail
        refine HRC.out.mono ?_
        rintro e w' ⟨rfl, hb'⟩
        have HB' := Lib.hid hb'
        have HRS' := Lib.hid ((hb'.block B (blk_lt HG6.out.rs)).trans HG6.out.rs)
        clear hb'
        go_wp2_with (refine wpList_store_blk rfl 26 _ _ rfl B _ #[.int .u8 0, .int .i64 0, .int .i64 0, .int .i64 0, .slice none 0 0, .slice none 0 0] 26 rfl rfl HRS'.out rfl (HS26.out zeroOp (.slice none 0 0) (.slice none 0 0)) (opOne zeroOp rfl rfl) ?_)
        intro w8 k8 fr8
        have HK8 := Lib.hid k8
        have HF8 := Lib.hid fr8
        clear k8 fr8
        go_wp2
        refine bodyPost_ret_by (results_cell_tmp rfl _ _ B 26 (opCells zeroOp (.slice none 0 0) (.slice none 0 0)) (0, 0) _ rfl HK8.out Tryd.underlying26 rfl (HS26.out zeroOp (.slice none 0 0) (.slice none 0 0))) rfl ⟨?_, (fun o' h' => by rw [HN9.out] at h'; cases h'), fun _ => rfl⟩
        rw [← HB.out]
        exact Fr.then_below (HG6.out.bel.trans (HB'.out.mono hBw)) HF8.out (by have := HB'.out.size; omega) (by rintro i rfl; exact Nat.le_refl _)
      · have hsome : pget b = some o := by
          unfold pget
          rw [HPA.out, if_neg (by simp [hbd, hl0, hro])]
        have HSOME := Lib.hid hsome
        rw [hro] at HRC
        clear hln hbd hl0 hro hsome
        go_wp2_with fail
        refine HRC.out.mono ?_
        rintro e w' ⟨rfl, hb'⟩
        have HB' := Lib.hid hb'
        have HRS' := Lib.hid ((hb'.block B (blk_lt HG6.out.rs)).trans HG6.out.rs)
        have HOP' := Lib.hid ((hb'.block gO (blk_lt HG6.out.op)).trans HG6.out.op)
        clear hb'
        go_wp2_with (first | refine wpList_load_row rfl 26 _ rfl gO rfl 26 (opCells o (.slice none 0 0) (.slice none 0 0)) (0, 0) _ HOP'.out Tryd.underlying26 rfl (HS26.out o (.slice none 0 0) (.slice none 0 0)) ?_ | refine wpList_store_blk rfl 26 _ _ rfl B _ (opCells o (.slice none 0 0) (.slice none 0 0)) 26 rfl rfl HRS'.out rfl (HS26.out o (.slice none 0 0) (.slice none 0 0)) (opOne o (own_oneCell HG6.out.oN) (own_oneCell HG6.out.oP)) ?_)
        intro w8 k8 fr8
        have HK8 := Lib.hid k8
        have HF8 := Lib.hid fr8
        clear k8 fr8
        go_wp2
        refine bodyPost_ret_by (results_cell_tmp rfl _ _ B 26 (opCells o (.slice none 0 0) (.slice none 0 0)) (0, 0) _ rfl HK8.out Tryd.underlying26 rfl (HS26.out o (.slice none 0 0) (.slice none 0 0))) rfl ⟨?_, fun o' h' => ?_, (fun h' => by rw [HSOME.out] at h'; cases h')⟩
        · rw [← HB.out]
          exact Fr.then_below (HG6.out.bel.trans (HB'.out.mono hBw)) HF8.out (by have := HB'.out.size; omega) (by rintro i rfl; exact Nat.le_refl _)
        · rw [HSOME.out] at h'
          obtain rfl := Option.some.inj h'
          have g1 := HF8.out.own ((pw_own_below HG6.out.oN HB'.out)) (fun k hk e => by
            obtain ⟨cells, hc⟩ := own_typed HG6.out.oN k hk
            rw [e, HG6.out.rs] at hc
            simp at hc)
          have g2 := HF8.out.own ((pw_own_below HG6.out.oP HB'.out)) (fun k hk e => by
            obtain ⟨cells, hc⟩ := own_typed HG6.out.oP k hk
            rw [e, HG6.out.rs] at hc
            simp at hc)
          rw [HB.out] at g1 g2
          exact ⟨HG6.out.wf, _, _, rfl, g1, g2⟩
  · rw [hbd] at m1
    have HN9 := Lib.hid (HNONE.out (.inl hbd))
    clear hbd
    go_wp2_with (refine wpList_store_blk rfl 26 _ _ rfl B _ #[.int .u8 0, .int .i64 0, .int .i64 0, .int .i64 0, .slice none 0 0, .slice none 0 0] 26 rfl rfl HG6.out.rs rfl (HS26.out zeroOp (.slice none 0 0) (.slice none 0 0)) (opOne zeroOp rfl rfl) ?_)
    intro w8 k8 fr8
    have HK8 := Lib.hid k8
    have HF8 := Lib.hid fr8
    clear k8 fr8
    go_wp2
    refine bodyPost_ret_by (results_cell_tmp rfl _ _ B 26 (opCells zeroOp (.slice none 0 0) (.slice none 0 0)) (0, 0) _ rfl HK8.out Tryd.underlying26 rfl (HS26.out zeroOp (.slice none 0 0) (.slice none 0 0))) rfl ⟨?_, (fun o' h' => by rw [HN9.out] at h'; cases h'), fun _ => rfl⟩
    rw [← HB.out]
    exact Fr.then_below HG6.out.bel HF8.out hBw (by rintro i rfl; exact Nat.le_refl _)

set_option maxHeartbeats 2000000 in
set_option maxRecDepth 100000 in
theorem get_one (v : Value) (b : List Int) (W : World) (hv : RdsC W v b) (hb : Bs b) (hk : val (take_ 1 ⟨b, false⟩) = 1) :
    Calls Tryd.prog 19 #[v] W (GetPost b W) := by
  obtain ⟨A, c, rfl⟩ : ∃ A c, v = .slice A b.length c := by obtain ⟨⟨A, c, e, _⟩, _⟩ := hv; exact ⟨A, c, e⟩
  have hbv := val_bd1 (take_len (k := 1) (s := ⟨b, false⟩)) (Bs.take_ (s := ⟨b, false⟩) hb)
  have hb1 : Bs (drop_ 1 ⟨b, false⟩).l := Bs.drop_ (s := ⟨b, false⟩) hb
  have HK := Lib.hid hk
  have HV := Lib.hid hv
  have HBS := Lib.hid hb
  have HB1 := Lib.hid hb1
  clear hv hb hb1
  go_enter Tryd.func19, Tryd.ntmps19
  go_upto_region 2 with fail
  obtain ⟨W2, hW2⟩ : ∃ W2, W2 = (W.alloc (.cells #[.int .u8 0, .int .i64 0, .int .i64 0, .int .i64 0, .slice none 0 0, .slice none 0 0] 26)).alloc (.cells #[.slice A b.length c, .bool false] 104) := ⟨_, rfl⟩
  rw [← hW2]
  have bel2 : Below W.heap.size W W2 := by rw [hW2]; exact ((Below.refl _ _).alloc (Nat.le_refl _) _).alloc (by simp) _
  have hr2 : W2.heap[W.heap.size]? = some (.cells (opCells zeroOp (.slice none 0 0) (.slice none 0 0)) 26 (0, 0)) := by rw [hW2]; exact blk_alloc (heap_alloc_new W _) _
  have hg2 : W2.heap[W.heap.size + 1]? = some (.cells #[.slice A b.length c, .bool false] 104 (0, 0)) := by
    rw [hW2]
    have := heap_alloc_new (W.alloc (.cells #[.int .u8 0, .int .i64 0, .int .i64 0, .int .i64 0, .slice none 0 0, .slice none 0 0] 26)) (.cells #[.slice A b.length c, .bool false] 104)
    simpa using this
  have hz2 : W2.heap.size = W.heap.size + 2 := by rw [hW2]; simp
  have hrd := rdr_begin HV.out bel2 (Nat.le_succ _) hg2
  obtain ⟨B, hB⟩ : ∃ B, B = W.heap.size := ⟨_, rfl⟩
  rw [← hB] at bel2 hr2 hrd hz2 ⊢
  have HB := Lib.hid hB
  have HN := Lib.hid (rnumber_any (B + 1) 1 _ W2 hrd HBS.out (by omega) (by omega))
  have HBEL2 := Lib.hid bel2
  have HRS2 := Lib.hid hr2
  clear hW2 hg2 hB bel2 hr2 hrd
  have HZ2 := Lib.hid hz2
  clear hz2
  go_wp2_with fail
  refine HN.out.mono ?_
  rintro e w3 ⟨rfl, q1, q2⟩
  have HR3 := Lib.hid q1
  have hr3 := q2.heap HRS2.out (by omega)
  have HRS3 := Lib.hid hr3
  have HBEL3 : Hid (Below B W w3) := Fr.then_below HBEL2.out q2 (by have := HZ2.out; omega) (by rintro i rfl; omega)
  have hz3 : B + 2 ≤ w3.heap.size := by have := HZ2.out; have := q2.size; omega
  clear q1 q2 hr3 HN
  rw [HK.out] at hbv ⊢
  clear hk
  clear hbv
  go_upto_region 3 with (refine wpList_alloc_store rfl rfl 26 rfl 5 rfl (.tmp 12) rfl rfl 6 zero26 _ rfl rfl rfl rfl ?_)
  obtain ⟨gO, hgO⟩ : ∃ gO, gO = w3.heap.size := ⟨_, rfl⟩
  rw [← hgO]
  generalize hw4 : w3.alloc _ = w4
  have hop4 : w4.heap[gO]? = some (.cells (opCells ⟨1, 0, 0, 0, [], []⟩ (.slice none 0 0) (.slice none 0 0)) 26 (0, 0)) := by rw [← hw4, hgO]; exact heap_alloc_new w3 _
  have gs : GS B B (B + 1) gO W ⟨1, 0, 0, 0, [], []⟩ (.slice none 0 0) (.slice none 0 0) (drop_ 1 ⟨b, false⟩) w4 := by
    refine ⟨hop4, by rw [← hw4]; exact blk_alloc HRS3.out _, by rw [← hw4]; exact HR3.out.alloc _, own_nil _ _ _ _, own_nil _ _ _ _, ⟨⟨by dsimp only; omega, by dsimp only; omega⟩, by unfold I64; simp, by unfold I64; simp, by unfold I64; simp, by simp, by simp⟩, by simp, by simp, ?_⟩
    rw [← hw4]
    exact HBEL3.out.alloc (by omega) _
  have hgO2 : B + 2 ≤ gO := by omega
  clear hw4 hgO hop4 HR3 HRS3 HBEL3 hz3
  have HG := Lib.hid gs
  clear gs
  have n0 := blk_cell HG.out.op 0
  simp only [opCells, List.getElem?_toArray, List.getElem?_cons_zero] at n0
  have HN := Lib.hid (rowF_any (B + 1) _ w4 HG.out.rd HB1.out)
  go_wp2_with fail
  refine HN.out.mono ?_
  rintro e w5 ⟨v5, rfl, q0, q1, q2⟩
  obtain ⟨A5, c5, rfl⟩ : ∃ A5 c5, v5 = .slice A5 (readRow rfresh dfresh (drop_ 1 ⟨b, false⟩)).length c5 := own_slice q0
  have hBw4 : B ≤ w4.heap.size := by have := blk_lt HG.out.op; omega
  have HG5 := Lib.hid (HG.out.fr q2 q1 (by omega) (by omega) (by omega) hBw4)
  have HO5 := Lib.hid (own_less q0 hBw4)
  clear q0 q1 q2 HN n0
  have y4 : ∃ u, w5.cell? ⟨gO, 4, none⟩ = some u := ⟨_, by rw [blk_cell HG5.out.op]; rfl⟩
  obtain ⟨u4, y4⟩ := y4
  have z4 := blk_frozen HG5.out.op 4
  go_upto_region 7 with fail
  have i0 : I64 0 := by unfold I64; omega
  have hwF := readF_wf (drop_ 1 ⟨b, false⟩) HB1.out
  have HG7 : Hid (GS B B (B + 1) gO W ⟨1, 0, 0, 0, readRow rfresh dfresh (drop_ 1 ⟨b, false⟩), []⟩ (.slice A5 (readRow rfresh dfresh (drop_ 1 ⟨b, false⟩)).length c5) (.slice none 0 0) (leaveRow dfresh (drop_ 1 ⟨b, false⟩)) (w5.setCell ⟨gO, 4, none⟩ (.slice A5 (readRow rfresh dfresh (drop_ 1 ⟨b, false⟩)).length c5))) :=
    HG5.out.set (by omega) (by omega) (by omega) rfl HO5.out HG5.out.oP ⟨⟨by dsimp only; omega, by dsimp only; omega⟩, i0, i0, i0, hwF.1, by simp⟩ (readRow_len _ _ _ HB1.out) (by simp)
  have HB2 := Lib.hid hwF.2
  have HWF := Lib.hid hwF.1
  generalize w5.setCell _ _ = w7 at *
  clear HG5 HO5 y4 z4 hwF HG
  have HN2 := Lib.hid (rowP_any (B + 1) _ w7 HG7.out.rd HB2.out)
  go_wp2_with fail
  refine HN2.out.mono ?_
  rintro e w8 ⟨v8, rfl, q0, q1, q2⟩
  obtain ⟨A8, c8, rfl⟩ : ∃ A8 c8, v8 = .slice A8 (readRow rput dput (leaveRow dfresh (drop_ 1 ⟨b, false⟩))).length c8 := own_slice q0
  have hBw7 : B ≤ w7.heap.size := by have := blk_lt HG7.out.op; omega
  have HG8 := Lib.hid (HG7.out.fr q2 q1 (by omega) (by omega) (by omega) hBw7)
  have HO8 := Lib.hid (own_less q0 hBw7)
  clear q0 q1 q2 HN2 HG7
  have y5 : ∃ u, w8.cell? ⟨gO, 5, none⟩ = some u := ⟨_, by rw [blk_cell HG8.out.op]; rfl⟩
  obtain ⟨u5, y5⟩ := y5
  have z5 := blk_frozen HG8.out.op 5
  go_upto_region 10 with fail
  have hwP := readP_wf _ HB2.out
  have HG6 : Hid (GS B B (B + 1) gO W ⟨1, 0, 0, 0, readRow rfresh dfresh (drop_ 1 ⟨b, false⟩), readRow rput dput (leaveRow dfresh (drop_ 1 ⟨b, false⟩))⟩ (.slice A5 (readRow rfresh dfresh (drop_ 1 ⟨b, false⟩)).length c5) (.slice A8 (readRow rput dput (leaveRow dfresh (drop_ 1 ⟨b, false⟩))).length c8) (leaveRow dput (leaveRow dfresh (drop_ 1 ⟨b, false⟩))) (w8.setCell ⟨gO, 5, none⟩ (.slice A8 (readRow rput dput (leaveRow dfresh (drop_ 1 ⟨b, false⟩))).length c8))) :=
    HG8.out.set (by omega) (by omega) (by omega) rfl HG8.out.oN HO8.out ⟨⟨by dsimp only; omega, by dsimp only; omega⟩, i0, i0, i0, HWF.out, hwP.1⟩ (readRow_len _ _ _ HB1.out) (readRow_len _ _ _ HB2.out)
  clear HG8 HO8 y5 z5 hwP i0
  obtain ⟨rowF, hrowF⟩ : ∃ l, l = (readRow rfresh dfresh (drop_ 1 ⟨b, false⟩)).length := ⟨_, rfl⟩
  obtain ⟨rowP, hrowP⟩ : ∃ l, l = (readRow rput dput (leaveRow dfresh (drop_ 1 ⟨b, false⟩))).length := ⟨_, rfl⟩
  rw [← hrowF, ← hrowP] at HG6 ⊢
  clear hrowF hrowP
  generalize w8.setCell _ _ = w6 at *
  obtain ⟨o, ho⟩ : ∃ o : OpV, o = ⟨1, 0, 0, 0, readRow rfresh dfresh (drop_ 1 ⟨b, false⟩), readRow rput dput (leaveRow dfresh (drop_ 1 ⟨b, false⟩))⟩ := ⟨_, rfl⟩
  obtain ⟨st, hst⟩ : ∃ st, st = leaveRow dput (leaveRow dfresh (drop_ 1 ⟨b, false⟩)) := ⟨_, rfl⟩
  rw [← ho, ← hst] at HG6
  have hpa : parse ⟨b, false⟩ = (o, st) := by rw [ho, hst]; unfold parse; simp [HK.out]
  have HPA := Lib.hid hpa
  clear hpa ho hst
  obtain ⟨A9, c9, hb9, r1, r2, r3, r4⟩ := HG6.out.rd
  have m0 := blk_cell hb9 0
  have m1 := blk_cell hb9 1
  have n0 := blk_cell HG6.out.op 0
  have n1 := blk_cell HG6.out.op 1
  have n2 := blk_cell HG6.out.op 2
  have n3 := blk_cell HG6.out.op 3
  have n4 := blk_cell HG6.out.op 4
  have n5 := blk_cell HG6.out.op 5
  simp only [opCells, List.getElem?_toArray, List.getElem?_cons_zero, List.getElem?_cons_succ] at m0 m1 n0 n1 n2 n3 n4 n5
  have hrc := right_any o (.slice A5 rowF c5) (.slice A8 rowP c8) w6 (own_rdsF HG6.out.oN HG6.out.wf.2.2.2.2.1) (own_rdsP HG6.out.oP HG6.out.wf.2.2.2.2.2) (by have := HG6.out.lN; omega) (by have := HG6.out.lP; omega)
  unfold opVal at hrc
  have HRC := Lib.hid hrc
  have hBw : B ≤ w6.heap.size := by have := blk_lt HG6.out.op; omega
  clear hrc hb9 r1 r2 r3 r4
  have hnone : (st.bad = true ∨ 0 < st.l.length ∨ right o = false) → pget b = none := fun h => by
    unfold pget
    rw [HPA.out]
    rw [if_pos]
    rcases h with h | h | h <;> simp [h]
  have HNONE := Lib.hid hnone
  clear hnone
  have hs26 : ∀ (o : OpV) (vN vP : Value), (Tryd.prog.info? 26).map (·.size) = some (opCells o (.slice A5 rowF c5) (.slice A8 rowP c8)).size := fun _ _ _ => size26
  have HS26 := Lib.hid hs26
  clear hs26
  cases hbd : st.bad
  · rw [hbd] at m1
    by_cases hln : 0 < st.l.length
    · have z1 : (0 : Int) < (st.l.length : Int) := by omega
      have z0 : decide (0 < st.l.length) = true := decide_eq_true hln
      have HN9 := Lib.hid (HNONE.out (.inr (.inl hln)))
      clear hbd
      go_wp2_with (refine wpList_store_blk rfl 26 _ _ rfl B _ #[.int .u8 0, .int .i64 0, .int .i64 0, .int .i64 0, .slice none 0 0, .slice none 0 0] 26 rfl rfl HG6.out.rs rfl (HS26.out zeroOp (.slice none 0 0) (.slice none 0 0)) (opOne zeroOp rfl rfl) ?_)
      intro w8 k8 fr8
      have HK8 := Lib.hid k8
      have HF8 := Lib.hid fr8
      clear k8 fr8
      go_wp2
      refine bodyPost_ret_by (results_cell_tmp rfl _ _ B 26 (opCells zeroOp (.slice none 0 0) (.slice none 0 0)) (0, 0) _ rfl HK8.out Tryd.underlying26 rfl (HS26.out zeroOp (.slice none 0 0) (.slice none 0 0))) rfl ⟨?_, (fun o' h' => by rw [HN9.out] at h'; cases h'), fun _ => rfl⟩
      rw [← HB.out]
      exact Fr.then_below HG6.out.bel HF8.out hBw (by rintro i rfl; exact Nat.le_refl _)
    · have hl0 : st.l.length = 0 := by omega
      have z1 : ¬ (0 : Int) < (st.l.length : Int) := by omega
      have z0 : decide (0 < st.l.length) = false := decide_eq_false hln
      cases hro : right o
      · have HN9 := Lib.hid (HNONE.out (.inr (.inr hro)))
        have HRO := Lib.hid hro
        rw [hro] at HRC
        clear hln hbd hl0 hro
        go_wp2_with fail
        refine HRC.out.mono ?_
        rintro e w' ⟨rfl, hb'⟩
        have HB' := Lib.hid hb'
        have HRS' := Lib.hid ((hb'.block B (blk_lt HG6.out.rs)).trans HG6.out.rs)
        clear hb'
        go_wp2_with (refine wpList_store_blk rfl 26 _ _ rfl B _ #[.int .u8 0, .int .i64 0, .int .i64 0, .int .i64 0, .slice none 0 0, .slice none 0 0] 26 rfl rfl HRS'.out rfl (HS26.out zeroOp (.slice none 0 0) (.slice none 0 0)) (opOne zeroOp rfl rfl) ?_)
        intro w8 k8 fr8
        have HK8 := Lib.hid k8
        have HF8 := Lib.hid fr8
        clear k8 fr8
        go_wp2
        refine bodyPost_ret_by (results_cell_tmp rfl _ _ B 26 (opCells zeroOp (.slice none 0 0) (.slice none 0 0)) (0, 0) _ rfl HK8.out Tryd.underlying26 rfl (HS26.out zeroOp (.slice none 0 0) (.slice none 0 0))) rfl ⟨?_, (fun o' h' => by rw [HN9.out] at h'; cases h'), fun _ => rfl⟩
        rw [← HB.out]
        exact Fr.then_below (HG6.out.bel.trans (HB'.out.mono hBw)) HF8.out (by have := HB'.out.size; omega) (by rintro i rfl; exact Nat.le_refl _)
      · have hsome : pget b = some o := by
          unfold pget
          rw [HPA.out, if_neg (by simp [hbd, hl0, hro])]
        have HSOME := Lib.hid hsome
        rw [hro] at HRC
        clear hln hbd hl0 hro hsome
        go_wp2_with fail
        refine HRC.out.mono ?_
        rintro e w' ⟨rfl, hb'⟩
        have HB' := Lib.hid hb'
        have HRS' := Lib.hid ((hb'.block B (blk_lt HG6.out.rs)).trans HG6.out.rs)
        have HOP' := Lib.hid ((hb'.block gO (blk_lt HG6.out.op)).trans HG6.out.op)
        clear hb'
        go_wp2_with (first | refine wpList_load_row rfl 26 _ rfl gO rfl 26 (opCells o (.slice A5 rowF c5) (.slice A8 rowP c8)) (0, 0) _ HOP'.out Tryd.underlying26 rfl (HS26.out o (.slice A5 rowF c5) (.slice A8 rowP c8)) ?_ | refine wpList_store_blk rfl 26 _ _ rfl B _ (opCells o (.slice A5 rowF c5) (.slice A8 rowP c8)) 26 rfl rfl HRS'.out rfl (HS26.out o (.slice A5 rowF c5) (.slice A8 rowP c8)) (opOne o (own_oneCell HG6.out.oN) (own_oneCell HG6.out.oP)) ?_)
        intro w8 k8 fr8
        have HK8 := Lib.hid k8
        have HF8 := Lib.hid fr8
        clear k8 fr8
        go_wp2
        refine bodyPost_ret_by (results_cell_tmp rfl _ _ B 26 (opCells o (.slice A5 rowF c5) (.slice A8 rowP c8)) (0, 0) _ rfl HK8.out Tryd.underlying26 rfl (HS26.out o (.slice A5 rowF c5) (.slice A8 rowP c8))) rfl ⟨?_, fun o' h' => ?_, (fun h' => by rw [HSOME.out] at h'; cases h')⟩
        · rw [← HB.out]
          exact Fr.then_below (HG6.out.bel.trans (HB'.out.mono hBw)) HF8.out (by have := HB'.out.size; omega) (by rintro i rfl; exact Nat.le_refl _)
        · rw [HSOME.out] at h'
          obtain rfl := Option.some.inj h'
          have g1 := HF8.out.own ((pw_own_below HG6.out.oN HB'.out)) (fun k hk e => by
            obtain ⟨cells, hc⟩ := own_typed HG6.out.oN k hk
            rw [e, HG6.out.rs] at hc
            simp at hc)
          have g2 := HF8.out.own ((pw_own_below HG6.out.oP HB'.out)) (fun k hk e => by
            obtain ⟨cells, hc⟩ := own_typed HG6.out.oP k hk
            rw [e, HG6.out.rs] at hc
            simp at hc)
          rw [HB.out] at g1 g2
          exact ⟨HG6.out.wf, _, _, rfl, g1, g2⟩
  · rw [hbd] at m1
    have HN9 := Lib.hid (HNONE.out (.inl hbd))
    clear hbd
    go_wp2_with (refine wpList_store_blk rfl 26 _ _ rfl B _ #[.int .u8 0, .int .i64 0, .int .i64 0, .int .i64 0, .slice none 0 0, .slice none 0 0] 26 rfl rfl HG6.out.rs rfl (HS26.out zeroOp (.slice none 0 0) (.slice none 0 0)) (opOne zeroOp rfl rfl) ?_)
    intro w8 k8 fr8
    have HK8 := Lib.hid k8
    have HF8 := Lib.hid fr8
    clear k8 fr8
    go_wp2
    refine bodyPost_ret_by (results_cell_tmp rfl _ _ B 26 (opCells zeroOp (.slice none 0 0) (.slice none 0 0)) (0, 0) _ rfl HK8.out Tryd.underlying26 rfl (HS26.out zeroOp (.slice none 0 0) (.slice none 0 0))) rfl ⟨?_, (fun o' h' => by rw [HN9.out] at h'; cases h'), fun _ => rfl⟩
    rw [← HB.out]
    exact Fr.then_below HG6.out.bel HF8.out hBw (by rintro i rfl; exact Nat.le_refl _)

/-- op.Get. -/
theorem get_any (v : Value) (b : List Int) (W : World) (hv : RdsC W v b) (hb : Bs b) : Calls Tryd.prog 19 #[v] W (GetPost b W) := by
  by_cases h1 : val (take_ 1 ⟨b, false⟩) = 1
  · exact get_one v b W hv hb h1
  · by_cases h2 : val (take_ 1 ⟨b, false⟩) = 2
    · exact get_two v b W hv hb h2
    · exact get_three v b W hv hb h1 h2
end Go.Proofs.YtlagkfiafelnnaaDoor
