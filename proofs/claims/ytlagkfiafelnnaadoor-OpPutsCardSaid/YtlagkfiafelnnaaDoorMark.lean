/- mark, markFresh, markPut. -/
import Derived.Test.YtlagkfiafelnnaaDoorRro
set_option linter.unusedVariables false
set_option linter.unusedSimpArgs false
namespace Go.Proofs.YtlagkfiafelnnaaDoor
open Go.RowKit Go.Proofs.YtlagkfiafelnnaaDoorW.PrintWords

def mkN (k i : Int) : Int := 1000003 * (k + 7) + i
set_option maxHeartbeats 400000 in
theorem markN_any (k i : Int) (W : World) (h0 : 0 ≤ k) (h1 : k ≤ 1000000) (h2 : 0 ≤ i) (h3 : i ≤ 4294967296000000) :
    Calls Tryd.prog 82 #[.int .i64 k, .int .i64 i] W fun e W' => e = .returned (.int .i64 (mkN k i)) ∧ W = W' := by
  go_enter Tryd.func82, Tryd.ntmps82
  go_wp2
  go_ret
  exact ⟨rfl, rfl⟩
def key0 : List Int := List.replicate 32 0
theorem key0_ok : KeyOk key0 := ⟨by decide, by unfold Bs; decide⟩
def mFre (k i : Int) : Fre := ⟨key0, mkN k i, 0, 0, 0⟩
def mPu (k i : Int) : Pu := ⟨mkN k i, key0, 0, 0⟩
theorem mkN_i64 (k i : Int) (h0 : 0 ≤ k) (h1 : k ≤ 1000000) (h2 : 0 ≤ i) (h3 : i ≤ 4294967296000000) : I64 (mkN k i) := by unfold I64 mkN; omega
theorem zero_i64 : I64 0 := by unfold I64; omega
theorem mFre_wf (k i : Int) (h0 : 0 ≤ k) (h1 : k ≤ 1000000) (h2 : 0 ≤ i) (h3 : i ≤ 4294967296000000) : (mFre k i).wf := ⟨key0_ok, mkN_i64 k i h0 h1 h2 h3, zero_i64, zero_i64, zero_i64⟩
theorem mPu_wf (k i : Int) (h0 : 0 ≤ k) (h1 : k ≤ 1000000) (h2 : 0 ≤ i) (h3 : i ≤ 4294967296000000) : (mPu k i).wf := ⟨mkN_i64 k i h0 h1 h2 h3, key0_ok, zero_i64, zero_i64⟩
theorem built62m (m : Int) : Tryd.prog.built 62 [(0, .int .i64 m)] = some #[.int .i64 m, .int .i64 0, .int .i64 0, .int .i64 0] := by kernel_rfl
def fre0 (m : Int) : Array Value := #[.int .u8 0, .int .u8 0, .int .u8 0, .int .u8 0, .int .u8 0, .int .u8 0, .int .u8 0, .int .u8 0, .int .u8 0, .int .u8 0, .int .u8 0, .int .u8 0, .int .u8 0, .int .u8 0, .int .u8 0, .int .u8 0, .int .u8 0, .int .u8 0, .int .u8 0, .int .u8 0, .int .u8 0, .int .u8 0, .int .u8 0, .int .u8 0, .int .u8 0, .int .u8 0, .int .u8 0, .int .u8 0, .int .u8 0, .int .u8 0, .int .u8 0, .int .u8 0, .int .i64 m, .int .i64 0, .int .i64 0, .int .i64 0]
theorem built64m (m : Int) : Tryd.prog.built 64 [(1, .agg #[.int .i64 m, .int .i64 0, .int .i64 0, .int .i64 0])] = some (fre0 m) := by kernel_rfl
theorem fre0_eq (k i : Int) : fre0 (mkN k i) = (mFre k i).cells.toArray := rfl
def pu0 (m : Int) : Array Value := #[.int .i64 m, .int .u8 0, .int .u8 0, .int .u8 0, .int .u8 0, .int .u8 0, .int .u8 0, .int .u8 0, .int .u8 0, .int .u8 0, .int .u8 0, .int .u8 0, .int .u8 0, .int .u8 0, .int .u8 0, .int .u8 0, .int .u8 0, .int .u8 0, .int .u8 0, .int .u8 0, .int .u8 0, .int .u8 0, .int .u8 0, .int .u8 0, .int .u8 0, .int .u8 0, .int .u8 0, .int .u8 0, .int .u8 0, .int .u8 0, .int .u8 0, .int .u8 0, .int .u8 0, .int .i64 0, .int .i64 0]
theorem built72m (m : Int) : Tryd.prog.built 72 [(0, .int .i64 m)] = some (pu0 m) := by kernel_rfl
theorem pu0_eq (k i : Int) : pu0 (mkN k i) = (mPu k i).cells.toArray := rfl
theorem size64a : (Tryd.prog.info? 64).map (·.size) = some 36 := by kernel_rfl

set_option maxHeartbeats 1000000 in
set_option maxRecDepth 100000 in
theorem markFresh_any (k i : Int) (W : World) (h0 : 0 ≤ k) (h1 : k ≤ 1000000) (h2 : 0 ≤ i) (h3 : i ≤ 4294967296000000) :
    Calls Tryd.prog 54 #[.int .i64 k, .int .i64 i] W fun e W' => e = .returned (.agg (mFre k i).cells.toArray) ∧ Below W.heap.size W W' := by
  have hlen : (mFre k i).cells.length = 36 := (mFre_wf k i h0 h1 h2 h3).len
  have HLEN := Lib.hid hlen
  clear hlen
  go_enter Tryd.func54, Tryd.ntmps54
  go_upto_region 1 with fail
  change _root_.Go.Code.wp _ _ _ _ (W.alloc (.cells z64 64))
  have hk0 := heap_alloc_new W (.cells z64 64)
  have hb0 : Below W.heap.size W (W.alloc (.cells z64 64)) := (Below.refl _ _).alloc (Nat.le_refl _) _
  generalize W.alloc (.cells z64 64) = W1 at *
  obtain ⟨gR, hgR⟩ : ∃ gR, gR = W.heap.size := ⟨_, rfl⟩
  rw [← hgR] at hk0 hb0 ⊢
  have HK0 := Lib.hid hk0
  have HB0 := Lib.hid hb0
  have HGR := Lib.hid hgR
  clear hk0 hb0 hgR
  go_wp2_with fail
  refine (markN_any k i W1 h0 h1 h2 h3).mono ?_
  rintro e w' ⟨rfl, rfl⟩
  simp only []
  rename_i hKK
  refine hKK _ _ ?_
  refine wpList_built1 rfl 62 0 (.tmp 7) rfl _ (built62m _) ?_
  refine wpList_built1 rfl 64 1 (.tmp 8) rfl _ (built64m _) ?_
  clear hKK
  rw [fre0_eq]
  have hs2 : (Tryd.prog.info? 64).map (·.size) = some (mFre k i).cells.toArray.size := by rw [List.size_toArray, HLEN.out]; exact size64
  have hz : z64.size = (mFre k i).cells.toArray.size := by show 36 = _; rw [List.size_toArray, HLEN.out]
  refine wpList_store_blk rfl 64 (.tmp 4) (.tmp 9) rfl gR z64 (mFre k i).cells.toArray 64 rfl rfl HK0.out hz hs2 (all_oneCell_toArray (mFre k i).one) ?_
  intro w' k' fr'
  have HFW := Lib.hid fr'
  have HKW := Lib.hid k'
  have HS2 := Lib.hid hs2
  clear fr' k' hz hs2
  go_wp2
  refine bodyPost_ret_by (results_cell_row rfl _ _ gR 64 (mFre k i).cells.toArray (0, 0) _ rfl HKW.out Tryd.underlying64 rfl HS2.out) rfl ⟨rfl, ?_⟩
  have hfin := HB0.out.trans (HFW.out.below (Nat.le_of_lt (blk_lt HK0.out)) (fun i e => by omega))
  rw [HGR.out] at hfin
  exact hfin
set_option maxHeartbeats 1000000 in
set_option maxRecDepth 100000 in
theorem markPut_any (k i : Int) (W : World) (h0 : 0 ≤ k) (h1 : k ≤ 1000000) (h2 : 0 ≤ i) (h3 : i ≤ 4294967296000000) :
    Calls Tryd.prog 55 #[.int .i64 k, .int .i64 i] W fun e W' => e = .returned (.agg (mPu k i).cells.toArray) ∧ Below W.heap.size W W' := by
  have hlen : (mPu k i).cells.length = 35 := (mPu_wf k i h0 h1 h2 h3).len
  have HLEN := Lib.hid hlen
  clear hlen
  go_enter Tryd.func55, Tryd.ntmps55
  go_upto_region 1 with fail
  change _root_.Go.Code.wp _ _ _ _ (W.alloc (.cells z72 72))
  have hk0 := heap_alloc_new W (.cells z72 72)
  have hb0 : Below W.heap.size W (W.alloc (.cells z72 72)) := (Below.refl _ _).alloc (Nat.le_refl _) _
  generalize W.alloc (.cells z72 72) = W1 at *
  obtain ⟨gR, hgR⟩ : ∃ gR, gR = W.heap.size := ⟨_, rfl⟩
  rw [← hgR] at hk0 hb0 ⊢
  have HK0 := Lib.hid hk0
  have HB0 := Lib.hid hb0
  have HGR := Lib.hid hgR
  clear hk0 hb0 hgR
  go_wp2_with fail
  refine (markN_any k i W1 h0 h1 h2 h3).mono ?_
  rintro e w' ⟨rfl, rfl⟩
  simp only []
  rename_i hKK
  refine hKK _ _ ?_
  refine wpList_built1 rfl 72 0 (.tmp 7) rfl _ (built72m _) ?_
  clear hKK
  rw [pu0_eq]
  have hs2 : (Tryd.prog.info? 72).map (·.size) = some (mPu k i).cells.toArray.size := by rw [List.size_toArray, HLEN.out]; exact size72
  have hz : z72.size = (mPu k i).cells.toArray.size := by show 35 = _; rw [List.size_toArray, HLEN.out]
  refine wpList_store_blk rfl 72 (.tmp 4) (.tmp 8) rfl gR z72 (mPu k i).cells.toArray 72 rfl rfl HK0.out hz hs2 (all_oneCell_toArray (mPu k i).one) ?_
  intro w' k' fr'
  have HFW := Lib.hid fr'
  have HKW := Lib.hid k'
  have HS2 := Lib.hid hs2
  clear fr' k' hz hs2
  go_wp2
  refine bodyPost_ret_by (results_cell_row rfl _ _ gR 72 (mPu k i).cells.toArray (0, 0) _ rfl HKW.out Tryd.underlying72 rfl HS2.out) rfl ⟨rfl, ?_⟩
  have hfin := HB0.out.trans (HFW.out.below (Nat.le_of_lt (blk_lt HK0.out)) (fun i e => by omega))
  rw [HGR.out] at hfin
  exact hfin
end Go.Proofs.YtlagkfiafelnnaaDoor
