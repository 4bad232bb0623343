/- OpPuts: an op, written, held against the document's. -/
import Derived.Test.YtlagkfiafelnnaaDoorBack
import Derived.Test.YtlagkfiafelnnaaDoorKept
import Derived.Test.YtlagkfiafelnnaaDoorOver
import Derived.Test.YtlagkfiafelnnaaDoorRefP
import Derived.Test.YtlagkfiafelnnaaDoorApartB
set_option linter.unusedVariables false
set_option linter.unusedSimpArgs false
namespace Go.Proofs.YtlagkfiafelnnaaDoor
open Go.RowKit Go.Proofs.YtlagkfiafelnnaaDoorW.PrintWords

def two {α : Type} (x y : α) (k : Nat) : α := if k = 0 then x else y
theorem flat_two {w : World} {B n1 n2 : Nat} {v1 v2 : Value} {x1 x2 : List Value} (h1 : w.ownsRow B 5 1 v1 n1 x1) (h2 : w.ownsRow B 5 1 v2 n2 x2) (hne : ∀ b, v1.ownBlock = some b → v2.ownBlock ≠ some b) :
    FlatV (fun _ => False) w B 2 (two v1 v2) (two n1 n2) (two x1 x2) := by
  refine ⟨fun k hk => ?_, fun k hk => World.ownsRow_nil _ _ _ _, fun i j b hi hj hij hb hb' => ?_, fun _ _ _ _ h => h, fun _ h => h.elim⟩
  · match k, hk with
    | 0, _ => exact h1
    | 1, _ => exact h2
  · have nb : ∀ b, ¬ (nilS).ownBlock = some b := fun b h => by simp [nilS, Value.ownBlock] at h
    have hc : (i = 0 ∧ j = 1) ∨ (i = 1 ∧ j = 0) := by omega
    rcases hc with ⟨rfl, rfl⟩ | ⟨rfl, rfl⟩
    · exact hb.elim (fun e => hb'.elim (fun e' => hne b e e') (nb b)) (nb b)
    · exact hb.elim (fun e => hb'.elim (fun e' => hne b e' e) (nb b)) (nb b)
/-- What is written of an op, and what is told. -/
def lo (o : OpV) : List Int := if right o then bytes o else []
def er (o : OpV) : Int := if right o then 0 else 2
theorem putPost_any {o : OpV} {W W' : World} {e : Ending} (h : PutPost o W e W') : ∃ A c, e = .returned (.tuple #[.slice A (lo o).length c, .int .i64 (er o)]) ∧ W'.ownsRow W.heap.size 5 1 (.slice A (lo o).length c) (lo o).length (nums .u8 (lo o)) ∧ Below W.heap.size W W' := by
  obtain ⟨hb, h1, h2⟩ := h
  unfold lo er
  cases hr : right o with
  | true =>
    obtain ⟨v, rfl, ho⟩ := h1 hr
    obtain ⟨A, c, rfl⟩ := own_slice ho
    exact ⟨A, c, rfl, ho, hb⟩
  | false =>
    exact ⟨none, 0, h2 hr, World.ownsRow_nil _ _ _ _, hb⟩
theorem lo_len {o : OpV} (hk : OkV o) : (lo o).length ≤ 1353 := by
  unfold lo
  cases hr : right o with
  | true => exact (bytes_len hr hk).1
  | false => simp
/-- What stays, as OpPuts goes on. -/
structure PK (B g bN bP BL : Nat) (W : World) (oc lc : Array Value) (o : OpV) (w : World) : Prop where
  bel : Below B W w
  size : B ≤ w.heap.size
  blo : w.heap[B]? = some (.cells oc 26 (0, 0))
  blg : w.heap[g]? = some (.cells lc 26 (0, 0))
  n : IsLentF w BL bN o.news
  p : IsLentP w BL bP o.puts
theorem PK.next {B g bN bP BL : Nat} {W : World} {oc lc : Array Value} {o : OpV} {w w' : World} (h : PK B g bN bP BL W oc lc o w) (q : Below w.heap.size w w') : PK B g bN bP BL W oc lc o w' :=
  ⟨h.bel.trans (q.mono h.size), Nat.le_trans h.size q.size, by rw [q.block B (blk_lt h.blo)]; exact h.blo, by rw [q.block g (blk_lt h.blg)]; exact h.blg, h.n.below q, h.p.below q⟩

theorem PK.drew {B g bN bP BL : Nat} {W : World} {oc lc : Array Value} {o : OpV} {w : World} (h : PK B g bN bP BL W oc lc o w) (d : Nat) : PK B g bN bP BL W oc lc o (w.drewN d) :=
  ⟨below_drewN h.bel d, h.size, h.blo, h.blg, h.n, h.p⟩
theorem run_load_row26 {op : Oper} {x : Operand} {a : Act} {g : Nat} {C : Array Value} {w : World} (ho : op.op = .load 26 x) (hx : a.eval x = .pointer (some ⟨g, 0, none⟩)) (hg : w.heap[g]? = some (.cells C 26 (0, 0))) (hi : (Tryd.prog.info? 26).map (·.size) = some C.size) : (execOp a.eval op).run Tryd.prog w = .ok (.value (.agg C)) w := by
  have hc : w.rangeAt g 0 C.toList := fun j v hj => by rw [Nat.zero_add, blk_cell hg]; simpa using hj
  unfold execOp
  simp only [ho, hx, Instr.loadAt, Instr.sureAddr, Sem.run_bind, Sem.run_pure, Result.andThen_ok, run_loadVar_mid w g 0 26 C.toList _ hc Tryd.underlying26 rfl (by simpa using hi)]
set_option maxHeartbeats 8000000 in
set_option maxRecDepth 1000000 in
theorem puts_any (o : OpV) (V : Value) (W : World) (hI : IsOp W V o) (h1 : o.news.length ≤ 140737488355328) (h2 : o.puts.length ≤ 140737488355328) :
    Calls Tryd.prog 3 #[V] W fun e W' => e = .returned (.bool true) ∧ Below W.heap.size W W' := by
  obtain ⟨B, hB⟩ : ∃ B, B = W.heap.size := ⟨_, rfl⟩
  rw [← hB]
  obtain ⟨vN, vP, rfl, hN, hP, hw⟩ := hI
  obtain ⟨AN, cN, rfl, n1, n2⟩ := hN.form
  obtain ⟨AP, cP, rfl, p1, p2⟩ := hP.form
  obtain ⟨OA, hOA⟩ : ∃ OA : Array Value, OA = #[.int .u8 o.kind, .int .i64 o.at_, .int .i64 o.n, .int .i64 o.snap, .slice AN o.news.length cN, .slice AP o.puts.length cP] := ⟨_, rfl⟩
  have HN := Lib.hid hN
  have HP := Lib.hid hP
  have HW := Lib.hid hw
  have HB := Lib.hid hB
  unfold opVal
  rw [← hOA]
  have HOA := Lib.hid hOA
  have hsz : (Tryd.prog.info? 26).map (·.size) = some OA.size := by rw [hOA]; exact size26
  have HSZ := Lib.hid hsz
  clear hN hP hw hB hOA hsz
  go_enter Tryd.func3, Tryd.ntmps3
  go_upto_region 1 with fail
  generalize hW1 : World.alloc _ _ = W1
  have hb1 : W1.heap[W.heap.size]? = some (.cells OA 26 (0, 0)) := by rw [← hW1]; exact heap_alloc_new W _
  have bel0 : Below W.heap.size W W1 := by rw [← hW1]; exact (Below.refl _ _).alloc (Nat.le_refl _) _
  rw [← HB.out] at hb1 bel0 ⊢
  have HB1 := Lib.hid hb1
  have HBEL1 := Lib.hid bel0
  clear hW1 hb1 bel0
  have hrn : ∀ w, Below B W w → RdsF w (.slice AN o.news.length cN) o.news := fun w q => HN.out.below (by rw [← HB.out]; exact q)
  have hrp : ∀ w, Below B W w → RdsP w (.slice AP o.puts.length cP) o.puts := fun w q => HP.out.below (by rw [← HB.out]; exact q)
  have HRN := Lib.hid hrn
  have HRP := Lib.hid hrp
  clear hrn hrp HN HP
  go_wp2_with (refine wpList_load_row rfl 26 (.tmp 1) rfl B rfl 26 OA (0, 0) _ HB1.out Tryd.underlying26 rfl HSZ.out ?_)
  rw [HOA.out]
  refine (great_any o (.slice AN o.news.length cN) (.slice AP o.puts.length cP) W1 (HRN.out _ HBEL1.out) (HRP.out _ HBEL1.out) h1 h2).mono ?_
  rw [← HOA.out]
  rintro e W2 ⟨rfl, q2⟩
  have hs1 : B ≤ W1.heap.size := Nat.le_of_lt (blk_lt HB1.out)
  have HBEL2 := Lib.hid (HBEL1.out.trans (q2.mono hs1))
  have HB2 := Lib.hid ((q2.block B (blk_lt HB1.out)).trans HB1.out)
  clear q2 hs1 HB1 HBEL1
  by_cases hg : (500 : Int) < (o.news.length : Int) + (o.puts.length : Int)
  · rw [decide_eq_true hg]
    go_wp2_with fail
    refine (awake_any W2).mono ?_
    rintro e W3 ⟨rfl, q3⟩
    have hfin := HBEL2.out.trans (q3.mono (Nat.le_of_lt (blk_lt HB2.out)))
    clear q3
    go_wp2
    go_ret
    exact ⟨rfl, hfin⟩
  rw [decide_eq_false hg]
  go_wp2_with (refine wpList_load_row rfl 26 (.tmp 1) rfl B rfl 26 OA (0, 0) _ HB2.out Tryd.underlying26 rfl HSZ.out ?_)
  rw [HOA.out]
  refine (lentOp_any o (.slice AN o.news.length cN) (.slice AP o.puts.length cP) W2 (HRN.out _ HBEL2.out) (HRP.out _ HBEL2.out) (by omega) (by omega)).mono ?_
  rw [← HOA.out]
  rintro e W3 ⟨bN, bP, rfl, hLN, hLP, hne, q3⟩
  unfold opVal
  have hBW2 : B < W2.heap.size := blk_lt HB2.out
  go_upto_region 4 with (refine wpList_alloc_store rfl rfl 26 rfl 3 rfl (.tmp 15) rfl rfl 6 zero26 _ rfl rfl rfl (opOne o rfl rfl) ?_)
  obtain ⟨LA, hLA⟩ : ∃ LA : Array Value, LA = #[.int .u8 o.kind, .int .i64 o.at_, .int .i64 o.n, .int .i64 o.snap, .slice (some ⟨bN, 0, none⟩) o.news.length (o.news.length + 12), .slice (some ⟨bP, 0, none⟩) o.puts.length (o.puts.length + 12)] := ⟨_, rfl⟩
  rw [← hLA]
  obtain ⟨g3, hg3⟩ : ∃ g, g = W3.heap.size := ⟨_, rfl⟩
  rw [← hg3]
  generalize hW4 : W3.alloc _ = W4
  have q4 : Below W3.heap.size W3 W4 := by rw [← hW4]; exact (Below.refl _ _).alloc (Nat.le_refl _) _
  have hpk : PK B g3 bN bP W2.heap.size W OA LA o W4 :=
    ⟨(HBEL2.out.trans (q3.mono (Nat.le_of_lt hBW2))).trans (q4.mono (Nat.le_trans (Nat.le_of_lt hBW2) q3.size)), Nat.le_trans (Nat.le_of_lt hBW2) (Nat.le_trans q3.size q4.size),
      (q4.block B (Nat.lt_of_lt_of_le hBW2 q3.size)).trans ((q3.block B hBW2).trans HB2.out), by rw [← hW4, hg3]; exact heap_alloc_new W3 _, hLN.below q4, hLP.below q4⟩
  have hbb : B < bN ∧ B < bP ∧ B < g3 ∧ bN < g3 ∧ bP < g3 := ⟨by have := hLN.ge; omega, by have := hLP.ge; omega, by have := q3.size; omega, by have := hLN.lt; omega, by have := hLP.lt; omega⟩
  have HBB := Lib.hid hbb
  have HNE := Lib.hid hne
  have HK4 := Lib.hid hpk
  have HLA := Lib.hid hLA
  have hsz3 : (Tryd.prog.info? 26).map (·.size) = some LA.size := by rw [hLA]; exact size26
  have HSZ3 := Lib.hid hsz3
  clear hW4 q4 hpk hg3 hLN hLP hne q3 HBEL2 HB2 hLA hsz3 hbb hBW2
  have hl1 : o.news.length ≤ 1000000 := by omega
  have hl2 : o.puts.length ≤ 1000000 := by omega
  go_upto_region 4 with fail
  refine wp_region_gen (S := fun w' => w'.heap[g3]? = some (.cells LA 26 (0, 0)) ∧ w'.heap[B]? = some (.cells OA 26 (0, 0))) (by kernel_rfl) (fun _ _ _ _ _ h => h) ?_
  intro Q' HQP HQN
  change wpAnyH _ _ _ _ _ _ _ _ (W4.drewN 1)
  have hS : (fun w' : World => w'.heap[g3]? = some (.cells LA 26 (0, 0)) ∧ w'.heap[B]? = some (.cells OA 26 (0, 0))) (W4.drewN 1) := ⟨HK4.out.blg, HK4.out.blo⟩
  refine wpAnyH_take (i := 0) (oi := ⟨some 16, _, _, _, _, none⟩) (v := .agg LA) rfl (by kernel_rfl) (by kernel_rfl) (by kernel_rfl) (fun c _ w h => HQP.out c _ _ _ w h) (Or.inl ⟨by rfl, fun w hSw => run_load_row26 rfl rfl hSw.1 HSZ3.out⟩) hS ?_
  try simp only [Act.put, List.setIfInBounds_toArray, List.set_cons_zero, List.set_cons_succ]
  refine wpAnyH_take (i := 2) (oi := ⟨some 18, _, _, _, _, none⟩) (v := .agg OA) rfl (by kernel_rfl) (by kernel_rfl) (by kernel_rfl) (fun c _ w h => HQP.out c _ _ _ w h) (Or.inl ⟨by rfl, fun w hSw => run_load_row26 rfl rfl hSw.2 HSZ.out⟩) hS ?_
  try simp only [Act.put, List.setIfInBounds_toArray, List.set_cons_zero, List.set_cons_succ]
  refine wpAnyH_ready (rs := [1]) (by kernel_rfl) (by simp) ?_
  refine AllReadyH.cons (o := ⟨some 17, _, _, _, _, none⟩) rfl (fun KQ hK => ?_) AllReadyH.nil
  rw [if_pos (by rfl)]
  go_wp2_with fail
  rw [HLA.out]
  refine (right_any o (.slice (some ⟨bN, 0, none⟩) o.news.length (o.news.length + 12)) (.slice (some ⟨bP, 0, none⟩) o.puts.length (o.puts.length + 12)) (W4.drewN 1) HK4.out.n.rds HK4.out.p.rds (by omega) (by omega)).mono ?_
  rw [← HLA.out]
  rintro e w5 ⟨rfl, q5⟩
  have HK5 : Hid (PK B g3 bN bP W2.heap.size W OA LA o w5) := (PK.drew HK4.out 1).next q5
  clear q5 HK4
  go_wp2_with fail
  clear hS
  have hS : (fun w' : World => w'.heap[g3]? = some (.cells LA 26 (0, 0)) ∧ w'.heap[B]? = some (.cells OA 26 (0, 0))) (w5) := ⟨HK5.out.blg, HK5.out.blo⟩
  refine hK.out _ _ hS (fun _ => ?_)
  try simp only [Act.put, List.setIfInBounds_toArray, List.set_cons_zero, List.set_cons_succ]
  refine wpAnyH_ready (rs := [3]) (by kernel_rfl) (by simp) ?_
  refine AllReadyH.cons (o := ⟨some 19, _, _, _, _, none⟩) rfl (fun KQ hK => ?_) AllReadyH.nil
  rw [if_pos (by rfl)]
  go_wp2_with fail
  rw [HOA.out]
  refine (rright_any o (.slice AN o.news.length cN) (.slice AP o.puts.length cP) w5 (HRN.out _ HK5.out.bel) (HRP.out _ HK5.out.bel)).mono ?_
  rw [← HOA.out]
  rintro e w6 ⟨rfl, q6⟩
  have HK6 : Hid (PK B g3 bN bP W2.heap.size W OA LA o w6) := HK5.out.next q6
  clear q6 HK5
  go_wp2_with fail
  clear hS
  have hS : (fun w' : World => w'.heap[g3]? = some (.cells LA 26 (0, 0)) ∧ w'.heap[B]? = some (.cells OA 26 (0, 0))) (w6) := ⟨HK6.out.blg, HK6.out.blo⟩
  refine hK.out _ _ hS (fun _ => ?_)
  try simp only [Act.put, List.setIfInBounds_toArray, List.set_cons_zero, List.set_cons_succ]
  have hbq : (right o == right o) = true := by simp
  refine wpAnyH_take (i := 4) (oi := ⟨some 20, _, _, _, _, none⟩) (v := ?_) rfl (by kernel_rfl) (by kernel_rfl) (by kernel_rfl) (fun c _ w h => HQP.out c _ _ _ w h) (Or.inl ⟨by rfl, ?v4⟩) hS ?_
  case v4 => (intro w hSw; (try dsimp only at hSw); obtain ⟨sb, sc⟩ := hSw; go_simp; try with_reducible rfl)
  try simp only [Act.put, List.setIfInBounds_toArray, List.set_cons_zero, List.set_cons_succ]
  refine wpAnyH_take (i := 5) (oi := ⟨some 4, _, _, _, _, none⟩) (v := ?_) rfl (by kernel_rfl) (by kernel_rfl) (by kernel_rfl) (fun c _ w h => HQP.out c _ _ _ w h) (Or.inl ⟨by rfl, ?v5⟩) hS ?_
  case v5 => (intro w hSw; (try dsimp only at hSw); obtain ⟨sb, sc⟩ := hSw; go_simp; try with_reducible rfl)
  try simp only [Act.put, List.setIfInBounds_toArray, List.set_cons_zero, List.set_cons_succ]
  refine wpAnyH_done (by kernel_rfl) ?_ _
  refine HQN.out _ _ ?_
  clear HQP HQN hS
  go_wp2_with (refine wpList_load_row rfl 26 (.tmp 3) rfl g3 rfl 26 LA (0, 0) _ HK6.out.blg Tryd.underlying26 rfl HSZ3.out ?_)
  rw [HLA.out]
  refine (put_any o (.slice (some ⟨bN, 0, none⟩) o.news.length (o.news.length + 12)) (.slice (some ⟨bP, 0, none⟩) o.puts.length (o.puts.length + 12)) w6 HK6.out.n.rds HK6.out.p.rds (by omega) (by omega)).mono ?_
  rw [← HLA.out]
  intro e w7 hpp
  obtain ⟨A5, c5, rfl, o5, q7⟩ := putPost_any hpp
  have HK7 := Lib.hid (HK6.out.next q7)
  have HO5 := Lib.hid o5
  have hz6 : Hid (g3 < w6.heap.size) := blk_lt HK6.out.blg
  clear hpp q7 o5 HK6
  go_wp2_with (refine wpList_load_row rfl 26 (.tmp 3) rfl g3 rfl 26 LA (0, 0) _ HK7.out.blg Tryd.underlying26 rfl HSZ3.out ?_)
  rw [HLA.out]
  refine (put_any o (.slice (some ⟨bN, 0, none⟩) o.news.length (o.news.length + 12)) (.slice (some ⟨bP, 0, none⟩) o.puts.length (o.puts.length + 12)) w7 HK7.out.n.rds HK7.out.p.rds (by omega) (by omega)).mono ?_
  rw [← HLA.out]
  intro e w8 hpp
  obtain ⟨A7, c7, rfl, o7, q8⟩ := putPost_any hpp
  have HK8 := Lib.hid (HK7.out.next q8)
  have HO58 := Lib.hid (pw_own_below HO5.out q8)
  have HO7 := Lib.hid o7
  have hne57 : ∀ b, (Value.slice A5 (lo o).length c5).ownBlock = some b → (Value.slice A7 (lo o).length c7).ownBlock ≠ some b := fun b hb hb' => by have := own_lt HO5.out b hb; have := own_base o7 b hb'; omega
  have HNE57 := Lib.hid hne57
  have hz7 : Hid (g3 < w7.heap.size) := blk_lt HK7.out.blg
  clear hpp q8 o7 HK7 HO5 hne57
  go_wp2_with (first | (refine wpList_unguard rfl ?_; refine wpList_load_row rfl 26 (.tmp 3) rfl g3 rfl 26 LA (0, 0) _ HK8.out.blg Tryd.underlying26 rfl HSZ3.out ?_) | (refine wpList_unguard rfl ?_; refine wpList_load_row rfl 26 (.tmp 1) rfl B rfl 26 OA (0, 0) _ HK8.out.blo Tryd.underlying26 rfl HSZ.out ?_))
  rw [HLA.out, HOA.out]
  refine (keptOp_any o W2.heap.size bN bP (.slice AN o.news.length cN) (.slice AP o.puts.length cP) w8 HK8.out.n HK8.out.p (HRN.out _ HK8.out.bel) (HRP.out _ HK8.out.bel) HW.out hl1 hl2).mono ?_
  rw [← HLA.out, ← HOA.out]
  rintro e w9 ⟨rfl, q9⟩
  have HK9 := Lib.hid (HK8.out.next q9)
  have HO59 := Lib.hid (pw_own_below HO58.out q9)
  have HO79 := Lib.hid (pw_own_below HO7.out q9)
  clear q9 HK8 HO58 HO7
  go_wp2_with (refine wpList_load_row rfl 26 (.tmp 3) rfl g3 rfl 26 LA (0, 0) _ HK9.out.blg Tryd.underlying26 rfl HSZ3.out ?_)
  rw [HLA.out]
  refine (overOp_any o W2.heap.size bN bP w9 HK9.out.n HK9.out.p HNE.out hl1 hl2).mono ?_
  rw [← HLA.out]
  rintro e w10 ⟨rfl, q10⟩
  have HBEL10 : Hid (Below B W w10) := Fr.then_below HK9.out.bel q10 HK9.out.size (fun i hi => by have := HBB.out; omega)
  have HBO10 := Lib.hid (q10.heap HK9.out.blo (by have := HBB.out; omega))
  have HO510 := Lib.hid (q10.own HO59.out (fun k hk hs => by have := own_base HO59.out k hk; have := HBB.out; have := hz6.out; omega))
  have HO710 := Lib.hid (q10.own HO79.out (fun k hk hs => by have := own_base HO79.out k hk; have := HBB.out; have := hz7.out; omega))
  have hz10 : Hid (B < w10.heap.size) := blk_lt HBO10.out
  clear q10 HK9 HO59 HO79
  go_wp2_with (refine wpList_load_row rfl 26 (.tmp 1) rfl B rfl 26 OA (0, 0) _ HBO10.out Tryd.underlying26 rfl HSZ.out ?_)
  rw [HOA.out]
  refine (rputd_any o (.slice AN o.news.length cN) (.slice AP o.puts.length cP) w10 (HRN.out _ HBEL10.out) (HRP.out _ HBEL10.out) HW.out.1).mono ?_
  rw [← HOA.out]
  intro e w11 hpp
  obtain ⟨A9, c9, rfl, o9, q11⟩ := putPost_any hpp
  have HBEL11 : Hid (Below B W w11) := HBEL10.out.trans (q11.mono (Nat.le_of_lt hz10.out))
  have HO511 := Lib.hid (pw_own_below HO510.out q11)
  have HO711 := Lib.hid (pw_own_below HO710.out q11)
  have HO9 := Lib.hid o9
  have hz11 : Hid (B ≤ w11.heap.size) := Nat.le_trans (Nat.le_of_lt hz10.out) q11.size
  clear hpp q11 o9 HBEL10 HO510 HO710 HBO10
  have hll := lo_len HW.out.ok
  have HR5 := Lib.hid (own_rds (xs := lo o) HO511.out)
  have HR9 := Lib.hid (own_rds (xs := lo o) HO9.out)
  generalize lo o = L at *
  generalize er o = ER at *
  have d0 : (ER == ER) = true := by simp
  go_wp2_with fail
  refine (same_yes _ _ L w11 HR5.out HR9.out).mono ?_
  rintro e w12 ⟨rfl, d, hd⟩
  have HBEL12 : Hid (Below B W w12) := by simp only [Hid]; rw [hd]; exact below_drewN HBEL11.out d
  have HO512 : Hid (w12.ownsRow B 5 1 (.slice A5 L.length c5) L.length (nums .u8 L)) := by simp only [Hid]; rw [hd]; exact own_mono HO511.out (by have := hz6.out; have := HBB.out; omega)
  have HO712 : Hid (w12.ownsRow B 5 1 (.slice A7 L.length c7) L.length (nums .u8 L)) := by simp only [Hid]; rw [hd]; exact own_mono HO711.out (by have := hz7.out; have := HBB.out; omega)
  have hz12 : B ≤ w12.heap.size := by rw [hd]; exact hz11.out
  clear hd HBEL11 HO511 HO711 HO9 HR5 HR9 d0
  have hfl := flat_two HO512.out HO712.out HNE57.out
  have HFL := Lib.hid (hfl.fr ((Fr.refl (fun _ => False) w12).alloc (.cells #[.slice A5 L.length c5, .slice A7 L.length c7] 30)) (fun _ h => h.elim))
  have HAR : Hid (Arr (w12.alloc (.cells #[.slice A5 L.length c5, .slice A7 L.length c7] 30)) 30 w12.heap.size 2 (two (.slice A5 L.length c5) (.slice A7 L.length c7))) := ⟨_, heap_alloc_new w12 _, fun j hj => by
    have hc : j = 0 ∨ j = 1 := by omega
    rcases hc with rfl | rfl <;> rfl⟩
  have hnn : ∀ k, k < 2 → two L.length L.length k ≤ 1000000000 := fun k _ => by unfold two; split <;> omega
  have bb7 := HBEL12.out.alloc hz12 (.cells #[.slice A5 L.length c5, .slice A7 L.length c7] 30)
  have HBB7 := Lib.hid bb7
  have HNN := Lib.hid hnn
  have HZ12 := Lib.hid hz12
  clear hfl bb7 hnn hz12 HBEL12 HO512 HO712
  go_wp2_with fail
  refine (apartBytes_any B 2 w12.heap.size 2 _ _ _ _ HAR.out HFL.out (by decide) (by decide) HNN.out (by simp; have := HZ12.out; omega)).mono ?_
  rintro e w13 ⟨rfl, q13⟩
  have HBEL13 : Hid (Below B W w13) := HBB7.out.trans q13
  have hs13 : Hid (B ≤ w13.heap.size) := Nat.le_trans (by simp; have := HZ12.out; omega) q13.size
  clear q13 HAR HFL HBB7
  go_wp2_with fail
  refine (awake_any w13).mono ?_
  rintro e w14 ⟨rfl, q14⟩
  have hfin := HBEL13.out.trans (q14.mono hs13.out)
  clear q14
  go_wp2
  go_ret
  exact ⟨rfl, hfin⟩
end Go.Proofs.YtlagkfiafelnnaaDoor
