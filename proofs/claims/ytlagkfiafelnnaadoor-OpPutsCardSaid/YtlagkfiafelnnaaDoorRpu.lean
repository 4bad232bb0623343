/- op.reader: put. -/
import Derived.Test.YtlagkfiafelnnaaDoorRfr
set_option linter.unusedVariables false
set_option linter.unusedSimpArgs false
namespace Go.Proofs.YtlagkfiafelnnaaDoor
open Go.RowKit Go.Proofs.YtlagkfiafelnnaaDoorW.PrintWords

/-- A unit that is read, its number alone known. -/
def c72 (n : Int) : List Value := .int .i64 n :: (List.replicate 32 (.int .u8 0) ++ [.int .i64 0, .int .i64 0])
theorem built72 (n : Int) : Tryd.prog.built 72 [(0, .int .i64 n)] = some (c72 n).toArray := by kernel_rfl
theorem pu_set {k : List Int} (h : k.length = 32) (n : Int) (x y : Value) :
    (((Value.int .i64 n :: (k.map (Value.int .u8) ++ [Value.int .i64 0, .int .i64 0])).toArray.setIfInBounds 33 x).setIfInBounds 34 y) = (Value.int .i64 n :: (k.map (Value.int .u8) ++ [x, y])).toArray := by
  have hl : (k.map (Value.int .u8)).length = 32 := by rw [List.length_map, h]
  generalize k.map (Value.int .u8) = l at hl
  rw [List.setIfInBounds_toArray, List.setIfInBounds_toArray]
  congr 1
  rw [List.set_cons_succ, List.set_cons_succ, List.set_append_right _ _ (by omega), List.set_append_right _ _ (by omega), hl]
  rfl
def z72 : Array Value := (c72 0).toArray

set_option maxHeartbeats 1000000 in
set_option maxRecDepth 100000 in
theorem rput_any (g : Nat) (s : St) (W : World) (h : IsRdr W g s) (hs : Bs s.l) :
    Calls Tryd.prog 48 #[.pointer (some ⟨g, 0, none⟩)] W fun e W' => e = .returned (.agg (rput s).cells.toArray) ∧ IsRdr W' g (dput s) ∧ Fr (fun i => i = g) W W' := by
  have hlt := h.lt
  have hlen : (take_ 32 (drop_ 2 s)).length = 32 := take_len
  have f0 : Fr (fun i => i = g) W (W.alloc (.cells z72 72)) := (Fr.refl _ W).alloc _
  have HN2 := Lib.hid (rnumber_any g 2 s _ (h.alloc (.cells z72 72)) hs (by omega) (by omega))
  have HLEN := Lib.hid hlen
  have HBS := Lib.hid hs
  have HF := Lib.hid f0
  clear h hlen f0 hs
  go_enter Tryd.func48, Tryd.ntmps48
  go_upto_region 1 with fail
  change _root_.Go.Code.wp _ _ _ _ (W.alloc (.cells z72 72))
  have HK0 := Lib.hid (heap_alloc_new W (.cells z72 72))
  generalize W.alloc (.cells z72 72) = W1 at *
  obtain ⟨gR, hgR⟩ : ∃ gR, gR = W.heap.size := ⟨_, rfl⟩
  rw [← hgR] at HK0 ⊢
  have HGR := Lib.hid hgR
  have HLT := Lib.hid hlt
  clear hgR hlt
  go_wp2_with fail
  refine HN2.out.mono ?_
  rintro e w1 ⟨rfl, q1, q2⟩
  have HR1 := Lib.hid q1
  have HF1 := Lib.hid q2
  clear q1 q2 HN2
  simp only []
  rename_i hKK
  refine hKK _ _ ?_
  refine wpList_built1 rfl 72 0 (.tmp 5) rfl _ (built72 _) ?_
  refine wpList_alloc_store rfl rfl 72 rfl 3 rfl (.tmp 6) rfl rfl 35 zero72 _ (by simp [c72]) rfl rfl (by simp [c72, Value.oneCell']) ?_
  clear hKK
  obtain ⟨u, hu⟩ : ∃ u, u = val (take_ 2 s) := ⟨_, rfl⟩
  rw [← hu]
  have HU := Lib.hid hu
  clear hu
  obtain ⟨g3, hg3⟩ : ∃ g3, g3 = w1.heap.size := ⟨_, rfl⟩
  rw [← hg3]
  have hb3 := heap_alloc_new w1 (.cells (c72 u).toArray 72)
  rw [← hg3] at hb3
  have HB3 := Lib.hid hb3
  have HF2 : Hid (Fr (fun _ => False) w1 (w1.alloc (.cells (c72 u).toArray 72))) := (Fr.refl _ w1).alloc _
  have HR2 := Lib.hid (HR1.out.fr HF2.out (fun _ _ h => h))
  have HKY := Lib.hid (rkey_any g _ _ HR2.out)
  generalize w1.alloc _ = w2 at *
  have HG3 := Lib.hid hg3
  clear hg3 hb3
  go_upto_region 2 with fail
  go_wp2_with fail
  refine HKY.out.mono ?_
  rintro e w3 ⟨rfl, q1, q2⟩
  have HR3 := Lib.hid q1
  have HF3 := Lib.hid q2
  clear q1 q2 HKY
  have h3g : g3 ≠ g := by have := HG3.out; have := HR1.out.lt; omega
  have hb4 := HF3.out.heap HB3.out h3g
  have HB4 := Lib.hid hb4
  have hs60 : (Tryd.prog.info? 60).map (·.size) = some ((take_ 32 (drop_ 2 s)).map (Value.int .u8)).toArray.size := by rw [List.size_toArray, List.length_map, HLEN.out]; exact size60
  have ht : w3.there g3 1 ((take_ 32 (drop_ 2 s)).map (Value.int .u8)).toArray.size := fun j hj => ⟨by
    rw [blk_cell hb4, Array.getElem?_eq_getElem (by simp [HLEN.out] at hj; simp [c72]; omega)]; rfl, blk_frozen hb4 _⟩
  have HS60 := Lib.hid hs60
  have HT := Lib.hid ht
  clear hs60 ht hb4
  go_upto_region 3 with (refine wpList_store_mid rfl 60 _ _ rfl g3 1 ((take_ 32 (drop_ 2 s)).map (Value.int .u8)).toArray rfl rfl HT.out HS60.out (all_oneCell_toArray (u8_one _)) ?_)
  obtain ⟨cur, hcur, _, hcl⟩ := setCells_row ((take_ 32 (drop_ 2 s)).map (Value.int .u8)).toArray.toList 1 w3 _ HB4.out (by simp [c72, HLEN.out])
  have hcur2 : cur = (Value.int .i64 u :: ((take_ 32 (drop_ 2 s)).map (Value.int .u8) ++ [Value.int .i64 0, .int .i64 0])).toArray := by
    apply Array.ext'
    rw [hcl]
    simp [c72, HLEN.out]
  obtain ⟨s1, s2, s3, s4⟩ := setCells_same g3 ((take_ 32 (drop_ 2 s)).map (Value.int .u8)).toArray.toList 1 w3
  have hf4 : Fr (fun k => k = g3) w3 (w3.setCells g3 1 ((take_ 32 (drop_ 2 s)).map (Value.int .u8)).toArray.toList) :=
    ⟨s1, s2, s3, by rw [s4]; exact Nat.le_refl _, fun k _ hk => setCells_far _ _ k (fun e => hk (by simpa using e))⟩
  rw [hcur2] at hcur
  have HB5 := Lib.hid hcur
  have HF4 := Lib.hid hf4
  clear hcur hcl hcur2 s1 s2 s3 s4 hf4
  have HR4 := Lib.hid (HR3.out.fr HF4.out (fun k hk e => by have := HG3.out; have := HR1.out.lt; omega))
  have HN1 := Lib.hid (rnumber_any g 1 _ _ HR4.out HBS.out.drop_.drop_ (by omega) (by omega))
  generalize w3.setCells g3 1 _ = w4 at *
  go_wp2_with fail
  refine HN1.out.mono ?_
  rintro e w5 ⟨rfl, q1, q2⟩
  have HR5 := Lib.hid q1
  have HF5 := Lib.hid q2
  have HN0 := Lib.hid (rnumber_any g 1 _ w5 q1 HBS.out.drop_.drop_.drop_ (by omega) (by omega))
  clear q1 q2 HN1
  go_wp2_with fail
  refine HN0.out.mono ?_
  rintro e w6 ⟨rfl, q1, q2⟩
  have HR6 := Lib.hid q1
  have HF6 := Lib.hid (HF5.out.trans q2 (fun _ h => .inl h))
  clear q1 q2 HN0
  have hb7 := HF6.out.heap HB5.out h3g
  have HB7 := Lib.hid hb7
  have c33 : ∃ v, w6.cell? ⟨g3, 33, none⟩ = some v := ⟨.int .i64 0, by rw [blk_cell hb7, List.getElem?_toArray, List.getElem?_cons_succ, List.getElem?_append_right (by simp [HLEN.out])]; simp [HLEN.out]⟩
  have c34 : ∃ v, w6.cell? ⟨g3, 34, none⟩ = some v := ⟨.int .i64 0, by rw [blk_cell hb7, List.getElem?_toArray, List.getElem?_cons_succ, List.getElem?_append_right (by simp [HLEN.out])]; simp [HLEN.out]⟩
  obtain ⟨x33, c33⟩ := c33
  obtain ⟨x34, c34⟩ := c34
  have f33 := blk_frozen hb7 33
  have f34 := blk_frozen hb7 34
  clear hb7
  go_upto_region 4 with fail
  have hcs : (rput s).cells = Value.int .i64 u :: ((take_ 32 (drop_ 2 s)).map (Value.int .u8) ++ [.int .i64 (val (take_ 1 (drop_ 32 (drop_ 2 s)))), .int .i64 (val (take_ 1 (drop_ 1 (drop_ 32 (drop_ 2 s)))))]) := by rw [HU.out]; rfl
  have hb8 := blk_set (blk_set HB7.out 33 (.int .i64 (val (take_ 1 (drop_ 32 (drop_ 2 s)))))) 34 (.int .i64 (val (take_ 1 (drop_ 1 (drop_ 32 (drop_ 2 s))))))
  rw [pu_set HLEN.out, ← hcs] at hb8
  have HF8 : Hid (Fr (fun k => k = g3) w6 ((w6.setCell ⟨g3, 33, none⟩ (.int .i64 (val (take_ 1 (drop_ 32 (drop_ 2 s)))))).setCell ⟨g3, 34, none⟩ (.int .i64 (val (take_ 1 (drop_ 1 (drop_ 32 (drop_ 2 s)))))))) :=
    ((Fr.refl (fun k => k = g3) w6).set (p := ⟨g3, 33, none⟩) (.inl rfl) _).set (p := ⟨g3, 34, none⟩) (.inl rfl) _
  have HB8 := Lib.hid hb8
  clear hb8 hcs c33 c34 f33 f34
  generalize (w6.setCell _ _).setCell _ _ = w8 at *
  have HGG : Hid (gR ≠ g ∧ gR ≠ g3 ∧ gR < g3) := by
    have h1 := HGR.out; have h2 := HLT.out; have h3 := HG3.out; have h4 := HF1.out.size; have h5 := blk_lt HK0.out
    simp only [Hid]; omega
  have hlenc : (rput s).cells.length = 35 := by simp [Pu.cells, rput, HLEN.out]
  have hs1 : (Tryd.prog.info? 72).map (·.size) = some (rput s).cells.length := by rw [hlenc]; exact size72
  have hs2 : (Tryd.prog.info? 72).map (·.size) = some (rput s).cells.toArray.size := by rw [List.size_toArray]; exact hs1
  have hz : z72.size = (rput s).cells.toArray.size := by show 35 = _; rw [List.size_toArray, hlenc]
  have hr8 : w8.rangeAt g3 0 (rput s).cells := fun j v hj => by rw [Nat.zero_add, blk_cell HB8.out, List.getElem?_toArray]; exact hj
  have HKR := Lib.hid (HF8.out.heap (HF6.out.heap (HF4.out.heap (HF3.out.heap (HF2.out.heap (HF1.out.heap HK0.out HGG.out.1) (fun h => h)) HGG.out.1) HGG.out.2.1) HGG.out.1) HGG.out.2.1)
  have HS1 := Lib.hid hs1
  have HS2 := Lib.hid hs2
  have HZ := Lib.hid hz
  have HR8 := Lib.hid hr8
  clear hs1 hs2 hz hr8 hlenc h3g
  go_wp2_with (first | refine wpList_load_mid rfl 72 _ rfl g3 0 rfl _ _ HR8.out Tryd.underlying72 rfl HS1.out ?_ | refine wpList_store_blk rfl 72 _ _ rfl gR _ (rput s).cells.toArray 72 rfl rfl HKR.out HZ.out HS2.out (all_oneCell_toArray (rput s).one) ?_)
  intro w' k' fr'
  have HFW := Lib.hid fr'
  have HKW := Lib.hid k'
  clear fr' k'
  go_wp2
  refine bodyPost_ret_by (results_cell_row rfl _ _ gR 72 (rput s).cells.toArray (0, 0) _ rfl HKW.out Tryd.underlying72 rfl HS2.out) rfl ⟨rfl, ?_, ?_⟩
  · have h1 := HGR.out
    have h2 := HLT.out
    have h3 := HGG.out
    exact ((HR6.out.fr HF8.out (fun k hk e => by omega)).fr HFW.out (fun k hk e => by omega))
  · have h1 := HGR.out
    have h2 := HF.out.size
    have h3 := HGG.out
    have f1 : Fr (fun i => i = g) W w3 := ((HF.out.trans HF1.out (fun i h => .inl h)).trans HF2.out (fun _ h => h.elim)).trans HF3.out (fun i h => .inl h)
    exact (((f1.trans HF4.out (fun i h => .inr (by omega))).trans HF6.out (fun i h => .inl h)).trans HF8.out (fun i h => .inr (by omega))).trans HFW.out (fun i h => .inr (by omega))
end Go.Proofs.YtlagkfiafelnnaaDoor
