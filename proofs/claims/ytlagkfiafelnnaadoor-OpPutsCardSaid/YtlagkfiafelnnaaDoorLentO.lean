/- LentOp. -/
import Derived.Test.YtlagkfiafelnnaaDoorLent
import Derived.Test.YtlagkfiafelnnaaDoorOpGet
set_option linter.unusedVariables false
set_option linter.unusedSimpArgs false
namespace Go.Proofs.YtlagkfiafelnnaaDoor
open Go.RowKit Go.Proofs.YtlagkfiafelnnaaDoorW.PrintWords

theorem own_mono {W : World} {base base' : Nat} {e : TypeId} {k : Nat} {v : Value} {n : Nat} {xs : List Value} (h : W.ownsRow base e k v n xs) (hb : base' ≤ base) : W.ownsRow base' e k v n xs :=
  ⟨h.1, h.2.imp id (fun ⟨g, c, cur, e, h, r⟩ => ⟨g, c, cur, e, Nat.le_trans hb h, r⟩)⟩
set_option maxHeartbeats 2000000 in
set_option maxRecDepth 100000 in
theorem lentOp_any (o : OpV) (vN vP : Value) (W : World) (hN : RdsF W vN o.news) (hP : RdsP W vP o.puts) (hl : o.news.length ≤ 1000000) (hl2 : o.puts.length ≤ 1000000) :
    Calls Tryd.prog 9 #[opVal o vN vP] W fun e W' => ∃ bN bP, e = .returned (opVal o (.slice (some ⟨bN, 0, none⟩) o.news.length (o.news.length + 12)) (.slice (some ⟨bP, 0, none⟩) o.puts.length (o.puts.length + 12))) ∧
      IsLentF W' W.heap.size bN o.news ∧ IsLentP W' W.heap.size bP o.puts ∧ bN ≠ bP ∧ Below W.heap.size W W' := by
  obtain ⟨B, hB⟩ : ∃ B, B = W.heap.size := ⟨_, rfl⟩
  rw [← hB]
  obtain ⟨AN, cN, rfl, n1, n2⟩ := hN.form
  obtain ⟨AP, cP, rfl, p1, p2⟩ := hP.form
  have HN := Lib.hid hN
  have HP := Lib.hid hP
  have HB := Lib.hid hB
  clear hN hP hB
  unfold opVal
  go_enter Tryd.func9, Tryd.ntmps9
  go_upto_region 1 with fail
  generalize hW1 : World.alloc W _ = W1
  have hb1 : W1.heap[W.heap.size]? = some (.cells #[.int .u8 o.kind, .int .i64 o.at_, .int .i64 o.n, .int .i64 o.snap, .slice AN o.news.length cN, .slice AP o.puts.length cP] 26 (0, 0)) := by
    rw [← hW1]; exact heap_alloc_new W _
  have hs1 : W1.heap.size = W.heap.size + 1 := by rw [← hW1]; exact Array.size_push _
  have bel1 : Below W.heap.size W W1 := by rw [← hW1]; exact (Below.refl _ _).alloc (Nat.le_refl _) _
  generalize hW2 : World.alloc W1 _ = W2
  have hb2 : W2.heap[W1.heap.size]? = some (.cells #[.int .u8 0, .int .i64 0, .int .i64 0, .int .i64 0, .slice none 0 0, .slice none 0 0] 26 (0, 0)) := by
    rw [← hW2]; exact heap_alloc_new W1 _
  have f2 : Fr (fun _ => False) W1 W2 := by rw [← hW2]; exact (Fr.refl _ W1).alloc _
  have bel2 : Below W.heap.size W W2 := by rw [← hW2]; exact bel1.alloc (by omega) _
  have hb1' := f2.heap hb1 (fun h => h)
  have hs2 : W2.heap.size = W.heap.size + 2 := by rw [← hW2, World.alloc, Array.size_push]; omega
  rw [hs1, ← HB.out] at hb2
  rw [← HB.out] at hb1'
  try rw [hs1]
  try rw [← HB.out]
  have HN2 := Lib.hid (HN.out.below bel2)
  have HP2 := Lib.hid (HP.out.below bel2)
  have HB1 := Lib.hid hb1'
  have HB2 := Lib.hid hb2
  have HBEL := Lib.hid bel2
  have HS2 := Lib.hid hs2
  clear hW1 hW2 hb1 hb1' hb2 f2 bel1 bel2 hs1 hs2 HN
  have c4 := blk_cell HB1.out 4
  simp only [List.getElem?_toArray, List.getElem?_cons_zero, List.getElem?_cons_succ] at c4
  go_wp2_with fail
  refine (lentF_any _ o.news W2 HN2.out hl).mono ?_
  rintro e W3 ⟨bN, rfl, hL, q3⟩
  have HB1' := Lib.hid ((q3.block B (by have := HS2.out; have := HB.out; omega)).trans HB1.out)
  have HB2' := Lib.hid ((q3.block (B + 1) (by have := HS2.out; have := HB.out; omega)).trans HB2.out)
  have HP3 := Lib.hid (HP2.out.below q3)
  have HL := Lib.hid hL
  have HBEL3 := Lib.hid (HBEL.out.trans (q3.mono HBEL.out.size))
  have HZ2 : Hid (B ≤ W2.heap.size) := by have := HS2.out; have := HB.out; simp only [Hid]; omega
  have HBN : Hid (B + 2 ≤ bN ∧ B + 2 ≤ W3.heap.size) := ⟨by have := hL.ge; have := HS2.out; have := HB.out; omega, by have := q3.size; have := HS2.out; have := HB.out; omega⟩
  clear c4 hL q3 HB1 HB2 HP2 HN2 HBEL HS2
  have c4 := blk_cell HB1'.out 4
  have c5 := blk_cell HB1'.out 5
  have f4 := blk_frozen HB1'.out 4
  simp only [List.getElem?_toArray, List.getElem?_cons_zero, List.getElem?_cons_succ] at c4 c5
  go_upto_region 2 with fail
  generalize hW4 : W3.setCell _ _ = W4
  have q4 : Below B W3 W4 := by rw [← hW4]; exact (Below.refl _ _).setCell (p := ⟨B, 4, none⟩) (Nat.le_refl _) _
  have fr4 : Fr (fun k => k = B) W3 W4 := by rw [← hW4]; exact (Fr.refl (fun k => k = B) W3).set (p := ⟨B, 4, none⟩) (.inl rfl) _
  have hb4 : W4.heap[B]? = some (.cells #[.int .u8 o.kind, .int .i64 o.at_, .int .i64 o.n, .int .i64 o.snap, .slice (some ⟨bN, 0, none⟩) o.news.length (o.news.length + 12), .slice AP o.puts.length cP] 26 (0, 0)) := by
    rw [← hW4, blk_set HB1'.out 4]; rfl
  have HB4 := Lib.hid hb4
  have HB24 := Lib.hid (fr4.heap HB2'.out (by omega))
  have HL4 := Lib.hid (HL.out.fr fr4 (by have := HBN.out.1; omega))
  have HBEL4 : Hid (Below W.heap.size W W4) := HBEL3.out.trans (q4.mono (by have := HB.out; omega))
  have HP4 := Lib.hid (HP.out.below HBEL4.out)
  have hs4 : B + 2 ≤ W4.heap.size := Nat.le_trans HBN.out.2 fr4.size
  have HS4 := Lib.hid hs4
  have HZ4 : Hid (B ≤ W4.heap.size) := by simp only [Hid]; omega
  have c5' := blk_cell hb4 5
  have f5' := blk_frozen hb4 5
  simp only [List.getElem?_toArray, List.getElem?_cons_zero, List.getElem?_cons_succ] at c5'
  clear hW4 q4 fr4 hb4 HB1' HB2' HL HBEL3 HP HP3 f4 c4 c5 hs4
  go_wp2_with fail
  refine (lentP_any _ o.puts W4 HP4.out hl2).mono ?_
  rintro e W5 ⟨bP, rfl, hL5, q5⟩
  have HB5 := Lib.hid ((q5.block B (by have := HS4.out; omega)).trans HB4.out)
  have HB25 := Lib.hid ((q5.block (B + 1) (by have := HS4.out; omega)).trans HB24.out)
  have HLN5 := Lib.hid (HL4.out.below q5)
  have HLP5 := Lib.hid hL5
  have HBEL5 : Hid (Below W.heap.size W W5) := HBEL4.out.trans (q5.mono HBEL4.out.size)
  have HBP : Hid (B + 2 ≤ bP ∧ bN ≠ bP) := ⟨by have := hL5.ge; have := HS4.out; omega, by have := hL5.ge; have := HL4.out.lt; omega⟩
  clear hL5 q5 HB4 HB24 HL4 HBEL4 HP4 c5' f5' HS4
  have c5 := blk_cell HB5.out 5
  have f5 := blk_frozen HB5.out 5
  simp only [List.getElem?_toArray, List.getElem?_cons_zero, List.getElem?_cons_succ] at c5
  go_upto_region 3 with fail
  generalize hW6 : W5.setCell _ _ = W6
  have q6 : Below B W5 W6 := by rw [← hW6]; exact (Below.refl _ _).setCell (p := ⟨B, 5, none⟩) (Nat.le_refl _) _
  have fr6 : Fr (fun k => k = B) W5 W6 := by rw [← hW6]; exact (Fr.refl (fun k => k = B) W5).set (p := ⟨B, 5, none⟩) (.inl rfl) _
  have hb6 : W6.heap[B]? = some (.cells #[.int .u8 o.kind, .int .i64 o.at_, .int .i64 o.n, .int .i64 o.snap, .slice (some ⟨bN, 0, none⟩) o.news.length (o.news.length + 12), .slice (some ⟨bP, 0, none⟩) o.puts.length (o.puts.length + 12)] 26 (0, 0)) := by
    rw [← hW6, blk_set HB5.out 5]; rfl
  have HB6 := Lib.hid hb6
  have HB26 := Lib.hid (fr6.heap HB25.out (by omega))
  have HLN6 := Lib.hid (HLN5.out.fr fr6 (by have := HBN.out.1; omega))
  have HLP6 := Lib.hid (HLP5.out.fr fr6 (by have := HBP.out.1; omega))
  have HBEL6 : Hid (Below W.heap.size W W6) := HBEL5.out.trans (q6.mono (by have := HB.out; omega))
  have HBB : Hid (B ≤ W2.heap.size ∧ B ≤ W4.heap.size) := ⟨HZ2.out, HZ4.out⟩
  clear hW6 q6 fr6 hb6 HB5 HB25 HLN5 HLP5 HBEL5 c5 f5
  go_wp2_with (first | refine wpList_load_row rfl 26 (.tmp 1) rfl B rfl 26 #[.int .u8 o.kind, .int .i64 o.at_, .int .i64 o.n, .int .i64 o.snap, .slice (some ⟨bN, 0, none⟩) o.news.length (o.news.length + 12), .slice (some ⟨bP, 0, none⟩) o.puts.length (o.puts.length + 12)] (0, 0) _ HB6.out Tryd.underlying26 rfl size26 ?_ | refine wpList_store_blk rfl 26 (.tmp 2) (.tmp 11) rfl (B + 1) #[.int .u8 0, .int .i64 0, .int .i64 0, .int .i64 0, .slice none 0 0, .slice none 0 0] #[.int .u8 o.kind, .int .i64 o.at_, .int .i64 o.n, .int .i64 o.snap, .slice (some ⟨bN, 0, none⟩) o.news.length (o.news.length + 12), .slice (some ⟨bP, 0, none⟩) o.puts.length (o.puts.length + 12)] 26 rfl rfl HB26.out rfl size26 (opOne o rfl rfl) ?_)
  intro w' k' fr'
  have HFW := Lib.hid fr'
  have HKW := Lib.hid k'
  clear fr' k'
  go_wp2
  refine bodyPost_ret_by (results_cell_row rfl _ _ (B + 1) 26 _ (0, 0) _ rfl HKW.out Tryd.underlying26 rfl size26) rfl ⟨bN, bP, rfl, ?_, ?_, HBP.out.2, ?_⟩
  · have h := HLN6.out.fr HFW.out (by have := HBN.out.1; omega)
    exact ⟨own_mono h.1 HBB.out.1, h.2⟩
  · have h := HLP6.out.fr HFW.out (by have := HBP.out.1; omega)
    exact ⟨own_mono h.1 HBB.out.2, h.2⟩
  · rw [HB.out]
    exact HBEL6.out.trans (HFW.out.below HBEL6.out.size (fun i e => by have := HB.out; omega))
end Go.Proofs.YtlagkfiafelnnaaDoor
