/- OpBack: an op written and read back. -/
import Derived.Test.YtlagkfiafelnnaaDoorWhole
set_option linter.unusedVariables false
set_option linter.unusedSimpArgs false
namespace Go.Proofs.YtlagkfiafelnnaaDoor
open Go.RowKit Go.Proofs.YtlagkfiafelnnaaDoorW.PrintWords

set_option maxHeartbeats 1000000 in
theorem great_any (o : OpV) (vN vP : Value) (W : World) (hN : RdsF W vN o.news) (hP : RdsP W vP o.puts) (h1 : o.news.length ≤ 140737488355328) (h2 : o.puts.length ≤ 140737488355328) :
    Calls Tryd.prog 7 #[opVal o vN vP] W fun e W' => e = .returned (.bool (decide ((500 : Int) < (o.news.length : Int) + (o.puts.length : Int)))) ∧ Below W.heap.size W W' := by
  obtain ⟨AN, cN, rfl, n1, n2⟩ := hN.form
  obtain ⟨AP, cP, rfl, p1, p2⟩ := hP.form
  clear hN hP
  unfold opVal
  go_enter Tryd.func7, Tryd.ntmps7
  go_upto_region 1 with fail
  generalize hW1 : World.alloc _ _ = W1
  have hb1 : W1.heap[W.heap.size]? = some (.cells #[.int .u8 o.kind, .int .i64 o.at_, .int .i64 o.n, .int .i64 o.snap, .slice AN o.news.length cN, .slice AP o.puts.length cP] 26 (0, 0)) := by
    rw [← hW1]; exact heap_alloc_new W _
  have bel0 : Below W.heap.size W W1 := by rw [← hW1]; exact (Below.refl _ _).alloc (Nat.le_refl _) _
  have k4 := blk_cell hb1 4
  have k5 := blk_cell hb1 5
  simp only [List.getElem?_toArray, List.getElem?_cons_zero, List.getElem?_cons_succ] at k4 k5
  have HBEL := Lib.hid bel0
  clear hW1 hb1 bel0
  go_wp2
  go_ret
  exact ⟨rfl, HBEL.out⟩

/-- What stays, as OpBack goes on. -/
structure Bk (B g : Nat) (W : World) (cs : Array Value) (o : OpV) (vN vP vT : Value) (tl : List Int) (w : World) : Prop where
  bel : Below B W w
  size : B ≤ w.heap.size
  blk : w.heap[g]? = some (.cells cs 26 (0, 0))
  n : RdsF w vN o.news
  p : RdsP w vP o.puts
  t : Rds w .u8 vT tl
theorem Bk.next {B g : Nat} {W : World} {cs : Array Value} {o : OpV} {vN vP vT : Value} {tl : List Int} {w w' : World} (h : Bk B g W cs o vN vP vT tl w) (q : Below w.heap.size w w') : Bk B g W cs o vN vP vT tl w' :=
  ⟨h.bel.trans (q.mono h.size), Nat.le_trans h.size q.size, by rw [q.block g (blk_lt h.blk)]; exact h.blk, h.n.below q, h.p.below q, h.t.below q⟩

set_option maxHeartbeats 4000000 in
set_option maxRecDepth 100000 in
theorem back_any (o : OpV) (V vT : Value) (tl : List Int) (x : Int) (W : World) (hI : IsOp W V o) (h1 : o.news.length ≤ 140737488355328) (h2 : o.puts.length ≤ 140737488355328) (hT : Rds W .u8 vT tl) (hTb : Bs tl) :
    Calls Tryd.prog 5 #[V, vT, .int .i64 x] W fun e W' => e = .returned (.bool true) ∧ Below W.heap.size W W' := by
  obtain ⟨B, hB⟩ : ∃ B, B = W.heap.size := ⟨_, rfl⟩
  rw [← hB]
  obtain ⟨vN, vP, rfl, hN, hP, hw⟩ := hI
  obtain ⟨AN, cN, rfl, n1, n2⟩ := hN.form
  obtain ⟨AP, cP, rfl, p1, p2⟩ := hP.form
  have hT0 := hT
  obtain ⟨AT, cT, rfl, t1, t2, t3⟩ := hT0
  have hTl : tl.length ≤ 9223372036854775807 := t3.2.1
  clear t3
  obtain ⟨CS, hCS⟩ : ∃ CS : Array Value, CS = #[.int .u8 o.kind, .int .i64 o.at_, .int .i64 o.n, .int .i64 o.snap, .slice AN o.news.length cN, .slice AP o.puts.length cP] := ⟨_, rfl⟩
  unfold opVal
  rw [← hCS]
  go_enter Tryd.func5, Tryd.ntmps5
  go_upto_region 1 with fail
  generalize hW1 : World.alloc _ _ = W1
  rw [← hB]
  have q0 : Below W.heap.size W W1 := by rw [← hW1]; exact (Below.refl _ _).alloc (Nat.le_refl _) _
  have bk1 : Bk B B W CS o (.slice AN o.news.length cN) (.slice AP o.puts.length cP) (.slice AT tl.length cT) tl W1 :=
    ⟨by rw [hB]; exact q0, by rw [hB]; exact q0.size, by rw [← hW1, hB, hCS]; exact heap_alloc_new W _, hN.below q0, hP.below q0, hT.below q0⟩
  have BK1 := Lib.hid bk1
  have HTB := Lib.hid hTb
  have HOK := Lib.hid hw.ok
  have HCS := Lib.hid hCS
  clear hW1 q0 bk1 hN hP hT hTb hB hw
  have hsz : (Tryd.prog.info? 26).map (·.size) = some CS.size := by rw [hCS]; exact size26
  have HSZ := Lib.hid hsz
  clear hsz hCS
  go_wp2_with fail
  refine (awake_any W1).mono ?_
  rintro e w2 ⟨rfl, q2⟩
  have BK2 := Lib.hid (BK1.out.next q2)
  clear q2 BK1
  go_wp2_with (refine wpList_load_row rfl 26 (.tmp 3) rfl B rfl 26 CS (0, 0) _ BK2.out.blk Tryd.underlying26 rfl HSZ.out ?_)
  rw [HCS.out]
  refine (great_any o (.slice AN o.news.length cN) (.slice AP o.puts.length cP) w2 BK2.out.n BK2.out.p h1 h2).mono ?_
  rw [← HCS.out]
  rintro e w3 ⟨rfl, q3⟩
  have BK3 := Lib.hid (BK2.out.next q3)
  clear q3 BK2
  by_cases hg : (500 : Int) < (o.news.length : Int) + (o.puts.length : Int)
  · rw [decide_eq_true hg]
    go_wp2
    go_ret
    exact ⟨rfl, BK3.out.bel⟩
  rw [decide_eq_false hg]
  by_cases hlong : 5000 < tl.length
  · have hl : decide ((5000 : Int) < (tl.length : Int)) = true := decide_eq_true (by omega)
    go_wp2
    go_ret
    exact ⟨rfl, BK3.out.bel⟩
  have hl : decide ((5000 : Int) < (tl.length : Int)) = false := decide_eq_false (by omega)
  go_wp2_with (refine wpList_load_row rfl 26 (.tmp 3) rfl B rfl 26 CS (0, 0) _ BK3.out.blk Tryd.underlying26 rfl HSZ.out ?_)
  rw [HCS.out]
  refine (put_any o (.slice AN o.news.length cN) (.slice AP o.puts.length cP) w3 BK3.out.n BK3.out.p (by omega) (by omega)).mono ?_
  rw [← HCS.out]
  rintro e w4 ⟨q4, hyes, hno⟩
  have BK4 := Lib.hid (BK3.out.next q4)
  have bw : B ≤ w3.heap.size := BK3.out.size
  clear q4 BK3
  cases hr : right o with
  | false =>
    obtain rfl := hno hr
    clear hyes hno
    go_wp2_with (refine wpList_load_row rfl 26 (.tmp 3) rfl B rfl 26 CS (0, 0) _ BK4.out.blk Tryd.underlying26 rfl HSZ.out ?_)
    rw [HCS.out]
    refine (right_any o (.slice AN o.news.length cN) (.slice AP o.puts.length cP) w4 BK4.out.n BK4.out.p (by omega) (by omega)).mono ?_
    rw [← HCS.out, hr]
    rintro e w5 ⟨rfl, q5⟩
    have BK5 := Lib.hid (BK4.out.next q5)
    clear q5 BK4
    go_wp2
    go_ret
    exact ⟨rfl, BK5.out.bel⟩
  | true =>
    obtain ⟨v4, rfl, ho4⟩ := hyes hr
    obtain ⟨A4, c4, rfl⟩ := own_slice ho4
    have r4 := own_rdsC ho4
    have HBS := Lib.hid (bytes_bs HOK.out)
    obtain ⟨l1, l2⟩ := bytes_len hr HOK.out
    have RB4 := Lib.hid r4
    clear r4 ho4 hyes hno
    go_wp2_with (refine wpList_load_row rfl 26 (.tmp 3) rfl B rfl 26 CS (0, 0) _ BK4.out.blk Tryd.underlying26 rfl HSZ.out ?_)
    rw [HCS.out]
    refine (right_any o (.slice AN o.news.length cN) (.slice AP o.puts.length cP) w4 BK4.out.n BK4.out.p (by omega) (by omega)).mono ?_
    rw [← HCS.out, hr]
    rintro e w5 ⟨rfl, q5⟩
    have BK5 := Lib.hid (BK4.out.next q5)
    have RB5 := Lib.hid (RB4.out.below q5)
    clear q5 BK4 RB4
    go_wp2_with fail
    refine (get_good _ _ o w5 RB5.out HBS.out (pget_bytes hr HOK.out)).mono ?_
    rintro e w6 ⟨AN', cN', AP', cP', rfl, hO, q6⟩
    have BK6 := Lib.hid (BK5.out.next q6)
    have RB6 := Lib.hid (RB5.out.below q6)
    have HO6 := Lib.hid hO
    clear q6 BK5 RB5 hO
    unfold opVal
    go_upto_region 9 with (refine wpList_alloc_store rfl rfl 26 rfl 9 rfl (.tmp 42) rfl rfl 6 zero26 _ rfl rfl rfl (opOne o rfl rfl) ?_)
    obtain ⟨g9, hg9⟩ : ∃ g, g = w6.heap.size := ⟨_, rfl⟩
    rw [← hg9]
    generalize hw7 : w6.alloc _ = w7
    have hk : w7.heap[g9]? = some (.cells #[.int .u8 o.kind, .int .i64 o.at_, .int .i64 o.n, .int .i64 o.snap, .slice AN' o.news.length cN', .slice AP' o.puts.length cP'] 26 (0, 0)) := by rw [← hw7, hg9]; exact heap_alloc_new w6 _
    have q7 : Below w6.heap.size w6 w7 := by rw [← hw7]; exact (Below.refl _ _).alloc (Nat.le_refl _) _
    have BK7 := Lib.hid (BK6.out.next q7)
    have RB7 := Lib.hid (RB6.out.below q7)
    have HO7 := Lib.hid (HO6.out.below q7)
    have HK := Lib.hid hk
    clear hw7 q7 hg9 hk BK6 RB6 HO6
    have hlb : decide ((1353 : Int) < ((bytes o).length : Int)) = false := decide_eq_false (by omega)
    go_wp2_with (first | (refine wpList_unguard rfl ?_; refine wpList_load_row rfl 26 (.tmp 3) rfl B rfl 26 CS (0, 0) _ BK7.out.blk Tryd.underlying26 rfl HSZ.out ?_) | (refine wpList_unguard rfl ?_; refine wpList_load_row rfl 26 (.tmp 9) rfl g9 rfl 26 #[.int .u8 o.kind, .int .i64 o.at_, .int .i64 o.n, .int .i64 o.snap, .slice AN' o.news.length cN', .slice AP' o.puts.length cP'] (0, 0) _ HK.out Tryd.underlying26 rfl size26 ?_))
    have hio : IsOp w7 (.agg CS) o := by
      obtain ⟨_, _, _, _, _, hw⟩ := HO7.out
      rw [HCS.out]
      exact ⟨_, _, rfl, BK7.out.n, BK7.out.p, hw⟩
    refine (sameOp_yes o _ _ w7 hio HO7.out).mono ?_
    rintro e w8 ⟨rfl, q8⟩
    have BK8 := Lib.hid (BK7.out.next q8)
    have RB8 := Lib.hid (RB7.out.below q8)
    clear q8 BK7 RB7 HO7 HK hio
    obtain ⟨k, hk0, hk1⟩ : ∃ k : Nat, x % ((bytes o).length : Int) = (k : Int) ∧ k < (bytes o).length := by
      have e1 := Int.emod_nonneg x (show ((bytes o).length : Int) ≠ 0 by omega)
      have e2 := Int.emod_lt_of_pos x (show (0 : Int) < ((bytes o).length : Int) by omega)
      exact ⟨(x % ((bytes o).length : Int)).toNat, by omega, by omega⟩
    have hcc : (bytes o).length ≤ c4 := by
      obtain ⟨⟨A, c, e, h1, _⟩, _⟩ := RB8.out
      injection e with _ _ e3
      omega
    have hcm : c4 ≤ 9223372036854775807 := RB8.out.2 _ _ _ rfl
    have kc0 : (0 : Int) ≤ (k : Int) := by omega
    have kc1 : (k : Int) ≤ (c4 : Int) := by omega
    by_cases h0 : 0 < tl.length
    · have hz : decide ((0 : Int) < (tl.length : Int)) = true := decide_eq_true (by omega)
      have hz2 : decide (0 < tl.length) = true := decide_eq_true h0
      go_wp2_with fail
      refine (copyBytes_any _ (bytes o) w8 RB8.out.1 (by omega)).mono ?_
      rintro e w9 ⟨v9, rfl, ho9, q9⟩
      have BK9 := Lib.hid (BK8.out.next q9)
      have RB9 := Lib.hid (RB8.out.below q9)
      have HO9 := Lib.hid ho9
      have hs9 : Hid (w8.heap.size ≤ w9.heap.size) := Lib.hid q9.size
      have q89 := Lib.hid q9
      have BK8' := Lib.hid BK8.out
      have RB8' := Lib.hid RB8.out
      obtain ⟨A9, c9, rfl⟩ := own_slice ho9
      have hTr : ReadsInt w9 .u8 AT tl.length tl := by
        obtain ⟨A, c, e, _, _, h⟩ := BK9.out.t
        injection e with e1
        rw [e1]
        exact h
      have HTR := Lib.hid hTr
      clear q9 BK8 RB8 ho9 hTr
      go_wp2_with (at_builtin; refine print_append_row (w0 := w9) w8.heap.size rfl _ _ 30 5 .u8 1 rfl Tryd.underlying30 infoByte (by decide) (.slice A9 (bytes o).length c9) (bytes o) tl AT tl.length cT rfl rfl HO9.out HTR.out (Below.refl _ _) hs9.out (by simp; omega) ?_)
      intro v1 w10 ho1 hb1 hg1 _
      have q10 : Below w8.heap.size w9 w10 := hb1
      have BK10 : Hid (Bk B B W CS o (.slice AN o.news.length cN) (.slice AP o.puts.length cP) (.slice AT tl.length cT) tl w10) := Lib.hid (BK8'.out.next (q89.out.trans q10))
      have RB10 := Lib.hid (RB8'.out.below (q89.out.trans q10))
      obtain ⟨A10, c10, rfl⟩ := own_slice ho1
      have RA : Hid (RdsC w10 (.slice A10 ((bytes o).length + tl.length) c10) (bytes o ++ tl)) := Lib.hid (own_rdsC (base := w8.heap.size) (e := 5) (by rw [List.length_append]; exact ho1))
      clear hb1 hg1 q10 ho1 BK9 RB9 HO9 HTR BK8' RB8' q89 hs9
      go_wp2_with fail
      refine (get_bad _ _ w10 RA.out (fun y hy => (List.mem_append.1 hy).elim (HBS.out y) (HTB.out y)) (pget_more hr HOK.out h0)).mono ?_
      rintro e wc ⟨rfl, qc⟩
      have BKc := Lib.hid (BK10.out.next qc)
      have RBc := Lib.hid (RB10.out.below qc)
      clear qc BK10 RB10 RA
      unfold opVal zeroOp
      go_upto_region 13 with (refine wpList_alloc_store rfl rfl 26 rfl 11 rfl (.tmp 70) rfl rfl 6 zero26 _ rfl rfl rfl rfl ?_)
      generalize hwd : wc.alloc _ = wd
      have qd : Below wc.heap.size wc wd := by rw [← hwd]; exact (Below.refl _ _).alloc (Nat.le_refl _) _
      have BKd := Lib.hid (BKc.out.next qd)
      have RBd := Lib.hid (RBc.out.below qd)
      clear hwd qd BKc RBc
      go_wp2_with fail
      refine (pick_any x ((bytes o).length : Int) wd (by omega) (by omega)).mono ?_
      rintro e wp ⟨rfl, rfl⟩
      rw [hk0]
      have RT := Lib.hid (RBd.out.take (m := k) (by omega))
      go_wp2_with fail
      refine (get_bad _ _ wd RT.out (HBS.out.take k) (pget_cut hr HOK.out hk1)).mono ?_
      rintro e wa ⟨rfl, qa⟩
      have BKa := Lib.hid (BKd.out.next qa)
      clear qa BKd RBd RT
      unfold opVal zeroOp
      go_upto_region 16 with (refine wpList_alloc_store rfl rfl 26 rfl 13 rfl (.tmp 82) rfl rfl 6 zero26 _ rfl rfl rfl rfl ?_)
      generalize hwb : wa.alloc _ = wb
      have qb : Below wa.heap.size wa wb := by rw [← hwb]; exact (Below.refl _ _).alloc (Nat.le_refl _) _
      have BKb := Lib.hid (BKa.out.next qb)
      clear hwb qb BKa
      go_wp2
      go_ret
      exact ⟨rfl, BKb.out.bel⟩
    · have hz : decide ((0 : Int) < (tl.length : Int)) = false := decide_eq_false (by omega)
      have hz2 : decide (0 < tl.length) = false := decide_eq_false h0
      go_wp2_with fail
      refine (pick_any x ((bytes o).length : Int) w8 (by omega) (by omega)).mono ?_
      rintro e wp ⟨rfl, rfl⟩
      rw [hk0]
      have RT := Lib.hid (RB8.out.take (m := k) (by omega))
      go_wp2_with fail
      refine (get_bad _ _ w8 RT.out (HBS.out.take k) (pget_cut hr HOK.out hk1)).mono ?_
      rintro e wa ⟨rfl, qa⟩
      have BKa := Lib.hid (BK8.out.next qa)
      clear qa BK8 RB8 RT
      unfold opVal zeroOp
      go_upto_region 16 with (refine wpList_alloc_store rfl rfl 26 rfl 13 rfl (.tmp 82) rfl rfl 6 zero26 _ rfl rfl rfl rfl ?_)
      generalize hwb : wa.alloc _ = wb
      have qb : Below wa.heap.size wa wb := by rw [← hwb]; exact (Below.refl _ _).alloc (Nat.le_refl _) _
      have BKb := Lib.hid (BKa.out.next qb)
      clear hwb qb BKa
      go_wp2
      go_ret
      exact ⟨rfl, BKb.out.bel⟩

end Go.Proofs.YtlagkfiafelnnaaDoor
