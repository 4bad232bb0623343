/- SameOp of equal ops. -/
import Derived.Test.YtlagkfiafelnnaaDoorSameR
set_option linter.unusedVariables false
set_option linter.unusedSimpArgs false
namespace Go.Proofs.YtlagkfiafelnnaaDoor
open Go.RowKit Go.Proofs.YtlagkfiafelnnaaDoorW.PrintWords

theorem below_drewN {B : Nat} {a w : World} (h : Below B a w) (d : Nat) : Below B a (w.drewN d) := ⟨h.os, h.tape, h.output, h.size, h.block⟩

set_option maxHeartbeats 2000000 in
set_option maxRecDepth 100000 in
theorem sameOp_yes (o : OpV) (V V' : Value) (W : World) (h : IsOp W V o) (h' : IsOp W V' o) :
    Calls Tryd.prog 23 #[V, V'] W fun e W' => e = .returned (.bool true) ∧ Below W.heap.size W W' := by
  obtain ⟨vN, vP, rfl, hN, hP, hw⟩ := h
  obtain ⟨vN', vP', rfl, hN', hP', _⟩ := h'
  obtain ⟨AN, cN, rfl, n1, n2⟩ := hN.form
  obtain ⟨AP, cP, rfl, p1, p2⟩ := hP.form
  obtain ⟨AN', cN', rfl, n1', n2'⟩ := hN'.form
  obtain ⟨AP', cP', rfl, p1', p2'⟩ := hP'.form
  obtain ⟨B, hB⟩ : ∃ B, B = W.heap.size := ⟨_, rfl⟩
  rw [← hB]
  have HB := Lib.hid hB
  have HN := Lib.hid hN
  have HP := Lib.hid hP
  have HN' := Lib.hid hN'
  have HP' := Lib.hid hP'
  clear hN hP hN' hP' hB hw
  unfold opVal
  go_enter Tryd.func23, Tryd.ntmps23
  go_upto_region 1 with fail
  generalize hW1 : World.alloc W _ = W1
  generalize hW2 : World.alloc W1 _ = W2
  have hs1 : W1.heap.size = W.heap.size + 1 := by rw [← hW1]; exact Array.size_push _
  have hb1 : W1.heap[W.heap.size]? = some (.cells #[.int .u8 o.kind, .int .i64 o.at_, .int .i64 o.n, .int .i64 o.snap, .slice AN o.news.length cN, .slice AP o.puts.length cP] 26 (0, 0)) := by
    rw [← hW1]; exact heap_alloc_new W _
  have hb2 : W2.heap[W1.heap.size]? = some (.cells #[.int .u8 o.kind, .int .i64 o.at_, .int .i64 o.n, .int .i64 o.snap, .slice AN' o.news.length cN', .slice AP' o.puts.length cP'] 26 (0, 0)) := by
    rw [← hW2]; exact heap_alloc_new W1 _
  have fr2 : Fr (fun _ => False) W1 W2 := by rw [← hW2]; exact (Fr.refl _ W1).alloc _
  have hb1' := fr2.heap hb1 (fun h => h)
  have bel0 : Below W.heap.size W W2 := by rw [← hW2, ← hW1]; exact ((Below.refl _ _).alloc (Nat.le_refl _) _).alloc (by rw [World.alloc, Array.size_push]; omega) _
  have HN1 := Lib.hid (HN.out.below bel0)
  have HP1 := Lib.hid (HP.out.below bel0)
  have HN2 := Lib.hid (HN'.out.below bel0)
  have HP2 := Lib.hid (HP'.out.below bel0)
  have HBEL : Hid (Below B W W2) := by simp only [Hid]; rw [HB.out]; exact bel0
  rw [hs1, ← HB.out] at hb2
  rw [← HB.out] at hb1'
  try rw [hs1]
  try rw [← HB.out]
  clear hW1 hW2 hs1 hb1 fr2 bel0
  have k0 := blk_cell hb1' 0
  have k1 := blk_cell hb1' 1
  have k2 := blk_cell hb1' 2
  have k3 := blk_cell hb1' 3
  have k4 := blk_cell hb1' 4
  have k5 := blk_cell hb1' 5
  have m0 := blk_cell hb2 0
  have m1 := blk_cell hb2 1
  have m2 := blk_cell hb2 2
  have m3 := blk_cell hb2 3
  have m4 := blk_cell hb2 4
  have m5 := blk_cell hb2 5
  simp only [List.getElem?_toArray, List.getElem?_cons_zero, List.getElem?_cons_succ] at k0 k1 k2 k3 k4 k5 m0 m1 m2 m3 m4 m5
  clear hb1' hb2 HN HP HN' HP' HB
  have e0 : (o.kind == o.kind) = true := by simp
  have e1 : (o.at_ == o.at_) = true := by simp
  have e2 : (o.n == o.n) = true := by simp
  have e3 : (o.snap == o.snap) = true := by simp
  go_wp2_with (go_at_call 51; refine (sameF_yes _ _ _ _ HN1.out HN2.out).mono ?_; rintro e w1 ⟨rfl, d, rfl⟩)
  go_wp2_with (go_at_call 52; refine (sameP_yes _ _ _ (W2.drewN d) HP1.out HP2.out).mono ?_; rintro e w1 ⟨rfl, d2, rfl⟩)
  go_ret
  exact ⟨rfl, below_drewN HBEL.out _⟩
end Go.Proofs.YtlagkfiafelnnaaDoor
