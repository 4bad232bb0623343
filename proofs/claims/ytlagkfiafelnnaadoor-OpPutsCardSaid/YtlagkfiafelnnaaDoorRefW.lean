/- The document's write: whether a write's rows are right. -/
import Derived.Test.YtlagkfiafelnnaaDoorRefA
set_option linter.unusedVariables false
set_option linter.unusedSimpArgs false
namespace Go.Proofs.YtlagkfiafelnnaaDoor
open Go.RowKit Go.Proofs.YtlagkfiafelnnaaDoorW.PrintWords

section
variable {P : Program} {ops : Array Oper} {S : World → Prop} {op : Oper} {a : Act}
theorem yieldsIf_eql_agg (hw : Region.wanted op (yielded ops a.tmps) = true) (t u : TypeId) (x y : Operand) (ho : op.op = .binOp .eql t x y u) (xs ys : Array Value) (hx : a.eval x = .agg xs) (hy : a.eval y = .agg ys)
    (hg : P.eqGuardType P.depth t = false) (r : Bool) (he : ∀ w, (Op.equalIn 10000 t (.agg xs) (.agg ys)).run P w = .ok r w) : YieldsIf P ops S op (.bool r) a :=
  .inl ⟨hw, fun w _ => by
    unfold execOp
    simp only [ho, hx, hy, Sem.run_bind, run_eqGuard_agg w _ _ _ _ _ _ hg, run_eql_struct, he, Result.andThen_ok, Sem.run_pure]⟩
end

theorem below_drewN' {B : Nat} {a w : World} (h : Below B a w) (d : Nat) : Below B a (w.drewN d) := ⟨h.os, h.tape, h.output, h.size, h.block⟩
theorem size70 : (Tryd.prog.info? 70).map (·.size) = some 34 := by kernel_rfl
/-- The keys of the first i extents, the last first. -/
def keysTo (l : List Fre) (i : Nat) : List (List Int) := ((l.take i).map Fre.key).reverse
theorem keysTo_succ {l : List Fre} {i : Nat} (h : i < l.length) : keysTo l (i + 1) = l[i].key :: keysTo l i := by
  unfold keysTo
  rw [List.take_succ_eq_append_getElem h, List.map_append, List.reverse_append]
  rfl
theorem keysTo_mem {l : List Fre} {i : Nat} {k : List Int} (hi : i ≤ l.length) : k ∈ keysTo l i ↔ ∃ j, ∃ h : j < l.length, j < i ∧ l[j].key = k := by
  unfold keysTo
  rw [List.mem_reverse, List.mem_map]
  constructor
  · rintro ⟨x, hx, rfl⟩
    obtain ⟨j, hj, rfl⟩ := List.getElem_of_mem hx
    rw [List.length_take] at hj
    exact ⟨j, by omega, by omega, by rw [List.getElem_take]⟩
  · rintro ⟨j, h, hj, rfl⟩
    exact ⟨l[j], List.mem_take_iff_getElem.2 ⟨j, by omega, rfl⟩, rfl⟩
theorem newsOk_step {l : List Fre} {i : Nat} (h : i < l.length) : newsOk (keysTo l i) (l.drop i) = (freOk l[i] && !((keysTo l i).contains l[i].key) && newsOk (keysTo l (i + 1)) (l.drop (i + 1))) := by
  rw [List.drop_eq_getElem_cons h, keysTo_succ h]
  rfl

set_option maxHeartbeats 4000000 in
set_option maxRecDepth 1000000 in
theorem rwrite_any (o : OpV) (vN vP : Value) (W : World) (hN : RdsF W vN o.news) (hP : RdsP W vP o.puts) :
    Calls Tryd.prog 31 #[opVal o vN vP] W fun e W' => e = .returned (.bool (writeOk o)) ∧ Below W.heap.size W W' := by
  obtain ⟨B, hB⟩ : ∃ B, B = W.heap.size := ⟨_, rfl⟩
  rw [← hB]
  obtain ⟨AN, cN, rfl, n1, n2⟩ := hN.form
  obtain ⟨AP, cP, rfl, p1, p2⟩ := hP.form
  have HN := Lib.hid hN
  have HP := Lib.hid hP
  have HB := Lib.hid hB
  clear hN hP hB
  unfold opVal
  go_enter Tryd.func31, Tryd.ntmps31
  go_upto_region 1 with fail
  generalize hW1 : World.alloc _ _ = W1
  have hb1 : W1.heap[W.heap.size]? = some (.cells #[.int .u8 o.kind, .int .i64 o.at_, .int .i64 o.n, .int .i64 o.snap, .slice AN o.news.length cN, .slice AP o.puts.length cP] 26 (0, 0)) := by
    rw [← hW1]; exact heap_alloc_new W _
  have bel1 : Below B W W1 := by rw [← hW1, HB.out]; exact (Below.refl _ _).alloc (Nat.le_refl _) _
  clear hW1
  have hgO : W.heap.size = B := HB.out.symm
  rw [hgO] at hb1 ⊢
  clear hgO
  have k4 := blk_cell hb1 4
  have k5 := blk_cell hb1 5
  simp only [List.getElem?_toArray, List.getElem?_cons_zero, List.getElem?_cons_succ] at k4 k5
  have HBO := Lib.hid hb1
  have HBEL := Lib.hid bel1
  clear hb1 bel1
  by_cases hA : 18 < o.news.length
  · have d1 : decide ((18 : Int) < (o.news.length : Int)) = true := decide_eq_true (by omega)
    go_wp2
    go_ret
    exact ⟨by rw [show writeOk o = false from by unfold writeOk; rw [decide_eq_false (show ¬ o.news.length ≤ 18 by omega)]; simp]; rfl, HBEL.out⟩
  have d1 : decide ((18 : Int) < (o.news.length : Int)) = false := decide_eq_false (by omega)
  by_cases hC : 18 < o.puts.length
  · have d2 : decide ((18 : Int) < (o.puts.length : Int)) = true := decide_eq_true (by omega)
    go_wp2
    go_ret
    exact ⟨by rw [show writeOk o = false from by unfold writeOk; rw [decide_eq_false (show ¬ o.puts.length ≤ 18 by omega)]; simp]; rfl, HBEL.out⟩
  have d2 : decide ((18 : Int) < (o.puts.length : Int)) = false := decide_eq_false (by omega)
  have hwo : writeOk o = (newsOk [] o.news && putsOk 0 o.puts) := by
    unfold writeOk
    rw [decide_eq_true (show o.news.length ≤ 18 by omega), decide_eq_true (show o.puts.length ≤ 18 by omega), Bool.and_true, Bool.and_true]
  have HWO := Lib.hid hwo
  clear hwo
  go_wp2
  clear k4 k5 d1 d2
  go_loopw [3] (fun v3 wr => ∃ (i : Nat), v3 = .int .i64 (i : Int) ∧ i ≤ o.news.length ∧ Hid (newsOk [] o.news = newsOk (keysTo o.news i) (o.news.drop i)) ∧ Hid (wr.heap[B]? = some (.cells #[.int .u8 o.kind, .int .i64 o.at_, .int .i64 o.n, .int .i64 o.snap, .slice AN o.news.length cN, .slice AP o.puts.length cP] 26 (0, 0))) ∧ Hid (Below B W wr)) (fun v3 _ => o.news.length - (intOf v3).toNat)
  case atStart => exact ⟨0, rfl, by omega, rfl, HBO.out, HBEL.out⟩
  case round =>
    clear HBO HBEL
    obtain ⟨i, rfl, hi, HOK, HBO, HBEL⟩ := hrel
    have bel0 : Below W.heap.size W wr := by rw [← HB.out]; exact HBEL.out
    have k4 := blk_cell HBO.out 4
    have k5 := blk_cell HBO.out 5
    simp only [List.getElem?_toArray, List.getElem?_cons_zero, List.getElem?_cons_succ] at k4 k5
    by_cases hlt : i < o.news.length
    · obtain ⟨b, off, rfl, hbl, hr⟩ := HN.out.at_ (by omega)
      have HSTEP := Lib.hid (newsOk_step hlt)
      have hri : wr.rangeAt b (off + i * 36) o.news[i].cells := fun j v hj => pw_cell_below bel0 (hr i hlt j v hj)
      have hw := HN.out.2 _ (List.getElem_mem hlt)
      have hgi : o.news[i]? = some o.news[i] := List.getElem?_eq_getElem hlt
      generalize o.news[i] = g at hri hw HSTEP hgi
      have hkl : g.key.length = 32 := hw.1.1
      have hrp : wr.rangeAt b (off + i * 36 + 32) [.int .i64 g.at_, .int .i64 g.sectors, .int .i64 g.units, .int .i64 g.refs] := fun j v hj => by
        rw [Nat.add_assoc]
        refine hri (32 + j) v ?_
        unfold Fre.cells
        rw [List.getElem?_append_right (by rw [List.length_map, hkl]; omega), List.length_map, hkl, Nat.add_sub_cancel_left]
        exact hj
      have hrk : wr.rangeAt b (off + i * 36) (g.key.map (Value.int .u8)) := fun j v hj => by
        refine hri j v ?_
        unfold Fre.cells
        rw [List.getElem?_append_left (List.getElem?_eq_some_iff.1 hj).1]
        exact hj
      have HRP := Lib.hid hrp
      have HRG := Lib.hid hrk
      have HGI := Lib.hid hgi
      have HW := Lib.hid hw
      have hHR := Lib.hid hr
      have HS60g : Hid ((Tryd.prog.info? 60).map (·.size) = some (g.key.map (Value.int .u8)).length) := by simp only [Hid]; rw [List.length_map, hkl]; exact size60
      have z0 : (0 : Int) ≤ (i : Int) := by omega
      have z1 : (i : Int) < (o.news.length : Int) := by omega
      clear hri hrp hrk hw hr hgi hkl
      have hno : freOk g = false → writeOk o = false := fun h => by rw [HWO.out, HOK.out, HSTEP.out, h]; rfl
      have HNO := Lib.hid hno
      clear hno
      go_wp2_with (refine wpList_load_mid rfl 62 _ rfl b (off + i * 36 + 32) rfl _ _ HRP.out Tryd.underlying62 rfl size62 ?_)
      refine (place_any g.at_ g.sectors g.units g.refs wr).mono ?_
      rw [show (within g.at_ 0 262144 && within g.sectors 1 1024 && within g.units 1 16 && decide (g.refs = 0)) = freOk g from rfl]
      rintro e w1 ⟨rfl, q1⟩
      have HBO1 : Hid (w1.heap[B]? = some (.cells #[.int .u8 o.kind, .int .i64 o.at_, .int .i64 o.n, .int .i64 o.snap, .slice (some ⟨b, off, none⟩) o.news.length cN, .slice AP o.puts.length cP] 26 (0, 0))) := by
        simp only [Hid]; rw [q1.block B (blk_lt HBO.out)]; exact HBO.out
      have HBEL1 : Hid (Below B W w1) := Lib.hid (HBEL.out.trans (q1.mono (by have := blk_lt HBO.out; omega)))
      clear q1 HBO HBEL k4 k5 bel0 HRP HRG
      cases hfo : freOk g with
      | false =>
        go_wp2
        go_ret
        exact ⟨by rw [HNO.out hfo]; rfl, HBEL1.out⟩
      | true =>
        go_wp2
        go_loopw [4] (fun v4 wr => ∃ (k d : Nat), v4 = .int .i64 (k : Int) ∧ k ≤ i ∧ Hid (∀ j f, o.news[j]? = some f → j < k → f.key ≠ g.key) ∧ Hid (wr = w1.drewN d)) (fun v4 _ => i - (intOf v4).toNat)
        case atStart => exact ⟨0, 0, rfl, by omega, fun _ _ _ h => by omega, rfl⟩
        case round =>
          obtain ⟨k, d, rfl, hk, HNE, HWD⟩ := hrel
          have bel0 : Below W.heap.size W wr := by rw [← HB.out, HWD.out]; exact ⟨HBEL1.out.os, HBEL1.out.tape, HBEL1.out.output, HBEL1.out.size, HBEL1.out.block⟩
          have HBO : Hid (wr.heap[B]? = some (.cells #[.int .u8 o.kind, .int .i64 o.at_, .int .i64 o.n, .int .i64 o.snap, .slice (some ⟨b, off, none⟩) o.news.length cN, .slice AP o.puts.length cP] 26 (0, 0))) := by simp only [Hid]; rw [HWD.out]; exact HBO1.out
          by_cases hki : k < i
          · have hlk : k < o.news.length := by omega
            have hrf0 : wr.rangeAt b (off + k * 36) o.news[k].cells := fun j v hj => pw_cell_below bel0 (hHR.out k hlk j v hj)
            have hrg0 : wr.rangeAt b (off + i * 36) g.cells := fun j v hj => by
              have := pw_cell_below bel0 (hHR.out i hlt j v (by rw [(Option.some.inj ((List.getElem?_eq_getElem hlt).symm.trans HGI.out))]; exact hj))
              exact this
            have hwf := HN.out.2 _ (List.getElem_mem hlk)
            have hgk : o.news[k]? = some o.news[k] := List.getElem?_eq_getElem hlk
            generalize o.news[k] = f at hrf0 hwf hgk
            have HRF : Hid (wr.rangeAt b (off + k * 36) (f.key.map (Value.int .u8))) := fun j v hj => by
              refine hrf0 j v ?_
              unfold Fre.cells
              rw [List.getElem?_append_left (List.getElem?_eq_some_iff.1 hj).1]
              exact hj
            have HRG : Hid (wr.rangeAt b (off + i * 36) (g.key.map (Value.int .u8))) := fun j v hj => by
              refine hrg0 j v ?_
              unfold Fre.cells
              rw [List.getElem?_append_left (List.getElem?_eq_some_iff.1 hj).1]
              exact hj
            have HS60f : Hid ((Tryd.prog.info? 60).map (·.size) = some (f.key.map (Value.int .u8)).length) := by simp only [Hid]; rw [List.length_map, hwf.1.1]; exact size60
            have HEQ := Lib.hid (eq60 hwf.1 HW.out.1)
            have HGK := Lib.hid hgk
            have y0 : (0 : Int) ≤ (k : Int) := by omega
            have y1 : (k : Int) < (o.news.length : Int) := by omega
            have y2 : (k : Int) < (i : Int) := by omega
            clear hrf0 hrg0 hwf hgk bel0
            go_upto_region 11 with fail
            refine wp_region_gen (S := fun w' => w'.heap[B]? = some (.cells #[.int .u8 o.kind, .int .i64 o.at_, .int .i64 o.n, .int .i64 o.snap, .slice (some ⟨b, off, none⟩) o.news.length cN, .slice AP o.puts.length cP] 26 (0, 0)) ∧ w'.rangeAt b (off + k * 36) (f.key.map (Value.int .u8)) ∧ w'.rangeAt b (off + i * 36) (g.key.map (Value.int .u8))) (by kernel_rfl) (fun _ _ _ _ _ h => h) ?_
            intro Q' HQP HQN
            change wpAnyH _ _ _ _ _ _ _ _ (wr.drewN 1)
            have hS : (fun w' : World => w'.heap[B]? = some (.cells #[.int .u8 o.kind, .int .i64 o.at_, .int .i64 o.n, .int .i64 o.snap, .slice (some ⟨b, off, none⟩) o.news.length cN, .slice AP o.puts.length cP] 26 (0, 0)) ∧ w'.rangeAt b (off + k * 36) (f.key.map (Value.int .u8)) ∧ w'.rangeAt b (off + i * 36) (g.key.map (Value.int .u8))) (wr.drewN 1) := ⟨HBO.out, HRF.out, HRG.out⟩
            refine wpAnyH_take (i := 0) (oi := ⟨some 37, _, _, _, _, none⟩) (v := ?_) rfl (by kernel_rfl) (by kernel_rfl) (by kernel_rfl) (fun c _ w h => HQP.out c _ _ _ w h) (Or.inl ⟨by rfl, ?v0⟩) hS ?_
            case v0 => (intro w hSw; (try dsimp only at hSw); obtain ⟨sb, s0, s1⟩ := hSw; have k4 := blk_cell sb 4; simp only [List.getElem?_toArray, List.getElem?_cons_zero, List.getElem?_cons_succ] at k4; go_simp; try with_reducible rfl)
            try simp only [Act.put, List.setIfInBounds_toArray, List.set_cons_zero, List.set_cons_succ]
            refine wpAnyH_take (i := 1) (oi := ⟨some 38, _, _, _, _, none⟩) (v := ?_) rfl (by kernel_rfl) (by kernel_rfl) (by kernel_rfl) (fun c _ w h => HQP.out c _ _ _ w h) (Or.inl ⟨by rfl, ?v1⟩) hS ?_
            case v1 => (intro w hSw; (try dsimp only at hSw); obtain ⟨sb, s0, s1⟩ := hSw; have k4 := blk_cell sb 4; simp only [List.getElem?_toArray, List.getElem?_cons_zero, List.getElem?_cons_succ] at k4; go_simp; try with_reducible rfl)
            try simp only [Act.put, List.setIfInBounds_toArray, List.set_cons_zero, List.set_cons_succ]
            refine wpAnyH_take (i := 2) (oi := ⟨some 39, _, _, _, _, none⟩) (v := ?_) rfl (by kernel_rfl) (by kernel_rfl) (by kernel_rfl) (fun c _ w h => HQP.out c _ _ _ w h) (Or.inl ⟨by rfl, ?v2⟩) hS ?_
            case v2 => (intro w hSw; (try dsimp only at hSw); obtain ⟨sb, s0, s1⟩ := hSw; go_simp; try with_reducible rfl)
            try simp only [Act.put, List.setIfInBounds_toArray, List.set_cons_zero, List.set_cons_succ]
            refine wpAnyH_take (i := 3) (oi := ⟨some 40, _, _, _, _, none⟩) (v := ?_) rfl (by kernel_rfl) (by kernel_rfl) (by kernel_rfl) (fun c _ w h => HQP.out c _ _ _ w h) (Or.inl ⟨by rfl, ?v3⟩) hS ?_
            case v3 => (intro w hSw; (try dsimp only at hSw); obtain ⟨sb, s0, s1⟩ := hSw; go_simp; try with_reducible rfl)
            try simp only [Act.put, List.setIfInBounds_toArray, List.set_cons_zero, List.set_cons_succ]
            refine wpAnyH_take (i := 4) (oi := ⟨some 41, _, _, _, _, none⟩) (v := ?_) rfl (by kernel_rfl) (by kernel_rfl) (by kernel_rfl) (fun c _ w h => HQP.out c _ _ _ w h) (Or.inl ⟨by rfl, ?v4⟩) hS ?_
            case v4 => (intro w hSw; (try dsimp only at hSw); obtain ⟨sb, s0, s1⟩ := hSw; go_simp; try with_reducible rfl)
            try simp only [Act.put, List.setIfInBounds_toArray, List.set_cons_zero, List.set_cons_succ]
            refine wpAnyH_take (i := 5) (oi := ⟨some 42, _, _, _, _, none⟩) (v := keyV f.key) rfl (by kernel_rfl) (by kernel_rfl) (by kernel_rfl) (fun c _ w h => HQP.out c _ _ _ w h) (yieldsIf_load_mid (by rfl) 60 (.tmp 41) rfl b (off + k * 36) rfl _ _ (fun w hw => hw.2.1) Tryd.underlying60 rfl HS60f.out) hS ?_
            try simp only [Act.put, List.setIfInBounds_toArray, List.set_cons_zero, List.set_cons_succ]
            refine wpAnyH_take (i := 6) (oi := ⟨some 43, _, _, _, _, none⟩) (v := ?_) rfl (by kernel_rfl) (by kernel_rfl) (by kernel_rfl) (fun c _ w h => HQP.out c _ _ _ w h) (Or.inl ⟨by rfl, ?v6⟩) hS ?_
            case v6 => (intro w hSw; (try dsimp only at hSw); obtain ⟨sb, s0, s1⟩ := hSw; have k4 := blk_cell sb 4; simp only [List.getElem?_toArray, List.getElem?_cons_zero, List.getElem?_cons_succ] at k4; go_simp; try with_reducible rfl)
            try simp only [Act.put, List.setIfInBounds_toArray, List.set_cons_zero, List.set_cons_succ]
            refine wpAnyH_take (i := 7) (oi := ⟨some 44, _, _, _, _, none⟩) (v := ?_) rfl (by kernel_rfl) (by kernel_rfl) (by kernel_rfl) (fun c _ w h => HQP.out c _ _ _ w h) (Or.inl ⟨by rfl, ?v7⟩) hS ?_
            case v7 => (intro w hSw; (try dsimp only at hSw); obtain ⟨sb, s0, s1⟩ := hSw; have k4 := blk_cell sb 4; simp only [List.getElem?_toArray, List.getElem?_cons_zero, List.getElem?_cons_succ] at k4; go_simp; try with_reducible rfl)
            try simp only [Act.put, List.setIfInBounds_toArray, List.set_cons_zero, List.set_cons_succ]
            refine wpAnyH_take (i := 8) (oi := ⟨some 45, _, _, _, _, none⟩) (v := ?_) rfl (by kernel_rfl) (by kernel_rfl) (by kernel_rfl) (fun c _ w h => HQP.out c _ _ _ w h) (Or.inl ⟨by rfl, ?v8⟩) hS ?_
            case v8 => (intro w hSw; (try dsimp only at hSw); obtain ⟨sb, s0, s1⟩ := hSw; go_simp; try with_reducible rfl)
            try simp only [Act.put, List.setIfInBounds_toArray, List.set_cons_zero, List.set_cons_succ]
            refine wpAnyH_take (i := 9) (oi := ⟨some 46, _, _, _, _, none⟩) (v := ?_) rfl (by kernel_rfl) (by kernel_rfl) (by kernel_rfl) (fun c _ w h => HQP.out c _ _ _ w h) (Or.inl ⟨by rfl, ?v9⟩) hS ?_
            case v9 => (intro w hSw; (try dsimp only at hSw); obtain ⟨sb, s0, s1⟩ := hSw; go_simp; try with_reducible rfl)
            try simp only [Act.put, List.setIfInBounds_toArray, List.set_cons_zero, List.set_cons_succ]
            refine wpAnyH_take (i := 10) (oi := ⟨some 47, _, _, _, _, none⟩) (v := ?_) rfl (by kernel_rfl) (by kernel_rfl) (by kernel_rfl) (fun c _ w h => HQP.out c _ _ _ w h) (Or.inl ⟨by rfl, ?v10⟩) hS ?_
            case v10 => (intro w hSw; (try dsimp only at hSw); obtain ⟨sb, s0, s1⟩ := hSw; go_simp; try with_reducible rfl)
            try simp only [Act.put, List.setIfInBounds_toArray, List.set_cons_zero, List.set_cons_succ]
            refine wpAnyH_take (i := 11) (oi := ⟨some 48, _, _, _, _, none⟩) (v := keyV g.key) rfl (by kernel_rfl) (by kernel_rfl) (by kernel_rfl) (fun c _ w h => HQP.out c _ _ _ w h) (yieldsIf_load_mid (by rfl) 60 (.tmp 47) rfl b (off + i * 36) rfl _ _ (fun w hw => hw.2.2) Tryd.underlying60 rfl HS60g.out) hS ?_
            try simp only [Act.put, List.setIfInBounds_toArray, List.set_cons_zero, List.set_cons_succ]
            refine wpAnyH_take (i := 12) (oi := ⟨some 49, _, _, _, _, none⟩) (v := .bool (decide (f.key = g.key))) rfl (by kernel_rfl) (by kernel_rfl) (by kernel_rfl) (fun c _ w h => HQP.out c _ _ _ w h) (yieldsIf_eql_agg (by rfl) 60 60 (.tmp 42) (.tmp 48) rfl _ _ rfl rfl (by kernel_rfl) (decide (f.key = g.key)) HEQ.out) hS ?_
            try simp only [Act.put, List.setIfInBounds_toArray, List.set_cons_zero, List.set_cons_succ]
            refine wpAnyH_done (by kernel_rfl) ?_ _
            refine HQN.out _ _ ?_
            clear HQP HQN hS
            by_cases hke : f.key = g.key
            · rw [decide_eq_true hke]
              go_wp2
              go_ret
              have hmem : (keysTo o.news i).contains g.key = true := by
                rw [List.contains_iff_mem, keysTo_mem hi]
                exact ⟨k, hlk, hki, by rw [← hke, (Option.some.inj ((List.getElem?_eq_getElem hlk).symm.trans HGK.out))]⟩
              exact ⟨by rw [HWO.out, HOK.out, HSTEP.out, hmem]; simp, below_drewN' (by rw [HWD.out]; exact below_drewN' HBEL1.out _) _⟩
            · rw [decide_eq_false hke]
              go_wp2
              go_roundw
              case rel => exact ⟨k + 1, d + 1, by go_num, by omega, fun j f' hj hjk => by
                by_cases hjk2 : j < k
                · exact HNE.out j f' hj hjk2
                · obtain rfl : j = k := by omega
                  obtain rfl := Option.some.inj (HGK.out.symm.trans hj)
                  exact hke, by simp only [Hid]; rw [HWD.out, World.drewN_drewN]⟩
              case measure => simp [intOf]; omega
          · obtain rfl : k = i := by omega
            have hmem : (keysTo o.news k).contains g.key = false := by
              rw [← Bool.not_eq_true, List.contains_iff_mem, keysTo_mem hi]
              rintro ⟨j, hj, hjk, he⟩
              exact HNE.out j _ (List.getElem?_eq_getElem hj) hjk he
            have HNX : Hid (newsOk [] o.news = newsOk (keysTo o.news (k + 1)) (o.news.drop (k + 1))) := by simp only [Hid]; rw [HOK.out, HSTEP.out, hmem, hfo]; rfl
            have HBX : Hid (Below B W wr) := by simp only [Hid]; rw [HWD.out]; exact below_drewN' HBEL1.out _
            clear hmem
            go_wp2
            go_roundw
            case rel => exact ⟨k + 1, by go_num, by omega, HNX.out, HBO.out, HBX.out⟩
            case measure => simp [intOf]; omega
    · obtain rfl : i = o.news.length := by omega
      have HNW : Hid (writeOk o = putsOk 0 o.puts) := by simp only [Hid]; rw [HWO.out, HOK.out, List.drop_length]; rfl
      clear HOK bel0 HWO
      go_wp2
      clear k4 k5
      go_loopw [6, 5] (fun v6 v5 wr => ∃ (j : Nat) (last : Int), v6 = .int .i64 (j : Int) ∧ v5 = .int .i64 last ∧ j ≤ o.puts.length ∧ (-1 ≤ last ∧ last ≤ 511) ∧ Hid (putsOk 0 o.puts = putsOk (last + 1) (o.puts.drop j)) ∧ Hid (wr.heap[B]? = some (.cells #[.int .u8 o.kind, .int .i64 o.at_, .int .i64 o.n, .int .i64 o.snap, .slice AN o.news.length cN, .slice AP o.puts.length cP] 26 (0, 0))) ∧ Hid (Below B W wr)) (fun v6 _ _ => o.puts.length - (intOf v6).toNat)
      case atStart => exact ⟨0, -1, rfl, rfl, by omega, by omega, rfl, HBO.out, HBEL.out⟩
      case round =>
        clear HBO HBEL
        obtain ⟨j, last, rfl, rfl, hj, hla, HOK, HBO, HBEL⟩ := hrel
        have bel0 : Below W.heap.size W wr := by rw [← HB.out]; exact HBEL.out
        have k5 := blk_cell HBO.out 5
        simp only [List.getElem?_toArray, List.getElem?_cons_zero, List.getElem?_cons_succ] at k5
        by_cases hlt : j < o.puts.length
        · obtain ⟨b, off, rfl, hbl, hr⟩ := HP.out.at_ (by omega)
          have hri : wr.rangeAt b (off + j * 35) o.puts[j].cells := fun k v hk => pw_cell_below bel0 (hr j hlt k v hk)
          have hw := HP.out.2 _ (List.getElem_mem hlt)
          have hstep : putsOk (last + 1) (o.puts.drop j) = (puOk (last + 1) o.puts[j] && putsOk (o.puts[j].unit + 1) (o.puts.drop (j + 1))) := by
            rw [List.drop_eq_getElem_cons hlt]; rfl
          generalize o.puts[j] = f at hri hw hstep
          have hkl : f.key.length = 32 := hw.2.1.1
          have c0 : wr.cell? ⟨b, off + j * 35, none⟩ = some (.int .i64 f.unit) := hri 0 _ rfl
          have hrs : wr.rangeAt b (off + j * 35 + 1) (f.key.map (Value.int .u8) ++ [.int .i64 f.off, .int .i64 f.mask]) := fun k v hk => by
            rw [Nat.add_assoc]
            refine hri (1 + k) v ?_
            rw [Nat.add_comm]
            exact hk
          have HRS := Lib.hid hrs
          have HS := Lib.hid hstep
          have HSZ : Hid ((Tryd.prog.info? 70).map (·.size) = some (f.key.map (Value.int .u8) ++ [Value.int .i64 f.off, Value.int .i64 f.mask]).length) := by simp only [Hid]; rw [List.length_append, List.length_map, hkl]; exact size70
          have HKO := Lib.hid hw.2.1
          have z0 : (0 : Int) ≤ (j : Int) := by omega
          have z1 : (j : Int) < (o.puts.length : Int) := by omega
          have hno : puOk (last + 1) f = false → writeOk o = false := fun h => by rw [HNW.out, HOK.out, HS.out, h]; rfl
          have HNO := Lib.hid hno
          have hpo : puOk (last + 1) f = (within f.unit (last + 1) 511 && (within f.off 0 15 && within f.mask 1 255)) := by unfold puOk; rw [Bool.and_assoc]
          have HPO := Lib.hid hpo
          clear hr hri hrs hstep hno hpo hw hkl bel0
          by_cases hu : f.unit ≤ last
          · have d1 : decide (f.unit ≤ last) = true := decide_eq_true hu
            have hwi : within f.unit (last + 1) 511 = false := decide_eq_false (by omega)
            have HWI := Lib.hid hwi
            clear hwi
            go_wp2
            go_ret
            exact ⟨by rw [HNO.out (by rw [HPO.out, HWI.out]; rfl)]; rfl, HBEL.out⟩
          · have d1 : decide (f.unit ≤ last) = false := decide_eq_false hu
            by_cases hu2 : 512 ≤ f.unit
            · have d2 : decide (512 ≤ f.unit) = true := decide_eq_true hu2
              have hwi : within f.unit (last + 1) 511 = false := decide_eq_false (by omega)
              have HWI := Lib.hid hwi
              clear hwi
              go_wp2
              go_ret
              exact ⟨by rw [HNO.out (by rw [HPO.out, HWI.out]; rfl)]; rfl, HBEL.out⟩
            · have d2 : decide (512 ≤ f.unit) = false := decide_eq_false hu2
              have hwi : within f.unit (last + 1) 511 = true := decide_eq_true (by omega)
              have HWI := Lib.hid hwi
              clear hwi
              go_wp2_with (refine wpList_unguard rfl ?_; refine wpList_load_mid rfl 70 _ rfl b (off + j * 35 + 1) rfl _ _ HRS.out Tryd.underlying70 rfl HSZ.out ?_)
              refine (slice_any f.key HKO.out f.off f.mask wr).mono ?_
              rintro e w1 ⟨rfl, q1⟩
              have HBO1 : Hid (w1.heap[B]? = some (.cells #[.int .u8 o.kind, .int .i64 o.at_, .int .i64 o.n, .int .i64 o.snap, .slice AN o.news.length cN, .slice (some ⟨b, off, none⟩) o.puts.length cP] 26 (0, 0))) := by
                simp only [Hid]; rw [q1.block B (blk_lt HBO.out)]; exact HBO.out
              have HBEL1 : Hid (Below B W w1) := Lib.hid (HBEL.out.trans (q1.mono (by have := blk_lt HBO.out; omega)))
              have c1 := pw_cell_below q1 c0
              have k6 := blk_cell HBO1.out 5
              simp only [List.getElem?_toArray, List.getElem?_cons_zero, List.getElem?_cons_succ] at k6
              clear q1 HBO HBEL HRS c0 k5 d1 d2
              cases hso : (within f.off 0 15 && within f.mask 1 255) with
              | false =>
                go_wp2
                go_ret
                exact ⟨by rw [HNO.out (by rw [HPO.out, hso, Bool.and_false])]; rfl, HBEL1.out⟩
              | true =>
                go_wp2
                go_roundw
                case rel => exact ⟨j + 1, f.unit, by go_num, rfl, by omega, by omega, by simp only [Hid]; rw [HOK.out, HS.out, HPO.out, hso, HWI.out]; rfl, HBO1.out, HBEL1.out⟩
                case measure => simp [intOf]; omega
        · obtain rfl : j = o.puts.length := by omega
          have hputs : putsOk 0 o.puts = true := by rw [HOK.out, List.drop_length]; rfl
          have HPT := Lib.hid hputs
          clear hputs bel0
          go_wp2
          go_ret
          exact ⟨by rw [HNW.out, HPT.out]; rfl, HBEL.out⟩
end Go.Proofs.YtlagkfiafelnnaaDoor
