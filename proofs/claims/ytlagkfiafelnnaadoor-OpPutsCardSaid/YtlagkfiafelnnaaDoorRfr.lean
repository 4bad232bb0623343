/- op.reader: fresh, put. -/
import Derived.Test.YtlagkfiafelnnaaDoorRdr
import Derived.Laws.Tables
set_option linter.unusedVariables false
set_option linter.unusedSimpArgs false
namespace Go.Proofs.YtlagkfiafelnnaaDoor
open Go.RowKit Go.Proofs.YtlagkfiafelnnaaDoorW.PrintWords

theorem zip_fold (off : Nat) : ∀ (l : List Value) (n : Nat) (C : Array Value), (l.zipIdx n).foldl (fun cs (x : Value × Nat) => cs.setIfInBounds (off + x.2) x.1) C = setMany C (off + n) l
  | [], _, _ => rfl
  | v :: l, n, C => by
    rw [List.zipIdx_cons, List.foldl_cons, zip_fold off l (n + 1)]
    rfl
theorem fill_one (place : Nat → Option (Nat × Nat)) (C : Array Value) (i off size : Nat) (v : Value) (hp : place i = some (off, size)) (hs : v.cells.size = size) (hc : off + size ≤ C.size) :
    Instr.fill place C [(i, v)] = some (setMany C off v.cells.toList) := by
  unfold Instr.fill
  simp only [hp]
  rw [if_neg (by simp [hs]; omega)]
  unfold Instr.fill
  congr 1
  have := zip_fold off v.cells.toList 0 C
  rw [Nat.add_zero] at this
  rw [← this, ← Array.foldl_toList, Array.toList_zipIdx]
def z64 : Array Value := #[.int .u8 0, .int .u8 0, .int .u8 0, .int .u8 0, .int .u8 0, .int .u8 0, .int .u8 0, .int .u8 0, .int .u8 0, .int .u8 0, .int .u8 0, .int .u8 0, .int .u8 0, .int .u8 0, .int .u8 0, .int .u8 0, .int .u8 0, .int .u8 0, .int .u8 0, .int .u8 0, .int .u8 0, .int .u8 0, .int .u8 0, .int .u8 0, .int .u8 0, .int .u8 0, .int .u8 0, .int .u8 0, .int .u8 0, .int .u8 0, .int .u8 0, .int .u8 0, .int .i64 0, .int .i64 0, .int .i64 0, .int .i64 0]
theorem built64 (v : Value) : Tryd.prog.built 64 [(0, v)] = Instr.fill (fun i => [(0, 32), (32, 4)].toArray[i]?) z64 [(0, v)] := by kernel_rfl
theorem built_key {k : List Int} (h : k.length = 32) : Tryd.prog.built 64 [(0, keyV k)] = some (k.map (Value.int .u8) ++ [Value.int .i64 0, .int .i64 0, .int .i64 0, .int .i64 0]).toArray := by
  have hl : (k.map (Value.int .u8)).length = 32 := by rw [List.length_map, h]
  rw [built64, fill_one _ _ 0 0 32 _ rfl (by simpa [keyV, Value.cells] using h) (by decide)]
  congr 1
  apply Array.ext_getElem?
  intro i
  rw [setMany_at _ _ _ _ (by simp only [keyV, Value.cells]; rw [hl]; decide)]
  simp only [keyV, Value.cells, Nat.zero_add, Nat.sub_zero, List.getElem?_toArray, Nat.zero_le, true_and, hl]
  by_cases hi : i < 32
  · rw [if_pos hi, List.getElem?_append_left (by omega)]
  · rw [if_neg hi, List.getElem?_append_right (by omega), hl]
    by_cases h2 : i < 36
    · have : i = 32 ∨ i = 33 ∨ i = 34 ∨ i = 35 := by omega
      rcases this with rfl | rfl | rfl | rfl <;> rfl
    · rw [Array.getElem?_eq_none (by show 36 ≤ i; omega), List.getElem?_eq_none (by simp; omega)]
section
variable {P : Program} {w : World} {ops : Array Oper} {rest : List Oper} {o : Oper} {a : Act} {Q : Exit → Act → World → Prop}
theorem wpList_built1 (hg : o.guard = none) (t : TypeId) (i : Nat) (x : Operand) (ho : o.op = .build t #[(i, x)]) (cells : Array Value)
    (hf : P.built t [(i, a.eval x)] = some cells) (h : wpList P ops Q rest (a.put o.dst (.agg cells)) w) : wpList P ops Q (o :: rest) a w := by
  have e : ((#[(i, x)] : Array (Nat × Operand)).map fun (i, x) => (i, a.eval x)).toList = [(i, a.eval x)] := by simp
  exact wpList_build hg t #[(i, x)] ho (by rw [e, hf]; rfl) (by rw [e, hf]; exact h)
end

theorem fre_set {k : List Int} (h : k.length = 32) (x y z : Value) :
    ((((k.map (Value.int .u8) ++ [Value.int .i64 0, .int .i64 0, .int .i64 0, .int .i64 0]).toArray.setIfInBounds 32 x).setIfInBounds 33 y).setIfInBounds 34 z) = (k.map (Value.int .u8) ++ [x, y, z, .int .i64 0]).toArray := by
  have hl : (k.map (Value.int .u8)).length = 32 := by rw [List.length_map, h]
  generalize k.map (Value.int .u8) = l at hl
  rw [List.setIfInBounds_toArray, List.setIfInBounds_toArray, List.setIfInBounds_toArray]
  congr 1
  rw [List.set_append_right _ _ (by omega), List.set_append_right _ _ (by omega), List.set_append_right _ _ (by omega), hl]
  rfl

set_option maxHeartbeats 1000000 in
set_option maxRecDepth 100000 in
theorem rfresh_any (g : Nat) (s : St) (W : World) (h : IsRdr W g s) (hs : Bs s.l) :
    Calls Tryd.prog 46 #[.pointer (some ⟨g, 0, none⟩)] W fun e W' => e = .returned (.agg (rfresh s).cells.toArray) ∧ IsRdr W' g (dfresh s) ∧ Fr (fun i => i = g) W W' := by
  have hlt := h.lt
  have hlen : (take_ 32 s).length = 32 := take_len
  have f0 : Fr (fun i => i = g) W (W.alloc (.cells z64 64)) := (Fr.refl _ W).alloc _
  have HK := Lib.hid (rkey_any g s _ (h.alloc (.cells z64 64)))
  have HLEN := Lib.hid hlen
  have HBS := Lib.hid hs
  have HF := Lib.hid f0
  clear h hlen f0 hs
  go_enter Tryd.func46, Tryd.ntmps46
  go_upto_region 1 with fail
  change _root_.Go.Code.wp _ _ _ _ (W.alloc (.cells z64 64))
  have HK0 := Lib.hid (heap_alloc_new W (.cells z64 64))
  generalize W.alloc (.cells z64 64) = W1 at *
  obtain ⟨gR, hgR⟩ : ∃ gR, gR = W.heap.size := ⟨_, rfl⟩
  rw [← hgR] at HK0 ⊢
  have HGR := Lib.hid hgR
  have HLT := Lib.hid hlt
  clear hgR hlt
  go_wp2_with fail
  refine HK.out.mono ?_
  rintro e w1 ⟨rfl, q1, q2⟩
  have HR1 := Lib.hid q1
  have HF1 := Lib.hid q2
  clear q1 q2 HK
  simp only []
  rename_i hKK
  refine hKK _ _ ?_
  refine wpList_built1 rfl 64 0 (.tmp 5) rfl _ (built_key HLEN.out) ?_
  refine wpList_alloc_store rfl rfl 64 rfl 3 rfl (.tmp 6) rfl rfl 36 zero64 _ (by simp [HLEN.out]) rfl rfl (by simp [Value.oneCell']) ?_
  clear hKK
  obtain ⟨g3, hg3⟩ : ∃ g3, g3 = w1.heap.size := ⟨_, rfl⟩
  rw [← hg3]
  have hb3 := heap_alloc_new w1 (.cells (List.map (Value.int .u8) (take_ 32 s) ++ [Value.int .i64 0, .int .i64 0, .int .i64 0, .int .i64 0]).toArray 64)
  rw [← hg3] at hb3
  have HB3 := Lib.hid hb3
  have HF2 : Hid (Fr (fun _ => False) w1 (w1.alloc (.cells (List.map (Value.int .u8) (take_ 32 s) ++ [Value.int .i64 0, .int .i64 0, .int .i64 0, .int .i64 0]).toArray 64))) := (Fr.refl _ w1).alloc _
  have HR2 := Lib.hid (HR1.out.fr HF2.out (fun _ _ h => h))
  have HN4 := Lib.hid (rnumber_any g 4 (drop_ 32 s) _ HR2.out HBS.out.drop_ (by omega) (by omega))
  generalize w1.alloc _ = w2 at *
  have HG3 := Lib.hid hg3
  clear hg3 hb3
  go_upto_region 2 with fail
  go_wp2_with fail
  refine HN4.out.mono ?_
  rintro e w3 ⟨rfl, q1, q2⟩
  have HR3 := Lib.hid q1
  have HF3 := Lib.hid q2
  have HN2 := Lib.hid (rnumber_any g 2 _ w3 q1 HBS.out.drop_.drop_ (by omega) (by omega))
  clear q1 q2 HN4
  go_wp2_with fail
  refine HN2.out.mono ?_
  rintro e w4 ⟨rfl, q1, q2⟩
  have HR4 := Lib.hid q1
  have HF4 := Lib.hid q2
  have HN1 := Lib.hid (rnumber_any g 1 _ w4 q1 HBS.out.drop_.drop_.drop_ (by omega) (by omega))
  clear q1 q2 HN2
  go_wp2_with fail
  refine HN1.out.mono ?_
  rintro e w5 ⟨rfl, q1, q2⟩
  have HR5 := Lib.hid q1
  have HF5 := Lib.hid (((HF3.out.trans HF4.out (fun _ h => .inl h)).trans q2 (fun _ h => .inl h)))
  clear q1 q2 HN1
  have h3g : g3 ≠ g := by have := HG3.out; have := HR1.out.lt; omega
  have hb5 := HF5.out.heap HB3.out h3g
  have HB5 := Lib.hid hb5
  have c32 : ∃ v, w5.cell? ⟨g3, 32, none⟩ = some v := ⟨.int .i64 0, by rw [blk_cell hb5, List.getElem?_toArray, List.getElem?_append_right (by simp [HLEN.out])]; simp [HLEN.out]⟩
  have c33 : ∃ v, w5.cell? ⟨g3, 33, none⟩ = some v := ⟨.int .i64 0, by rw [blk_cell hb5, List.getElem?_toArray, List.getElem?_append_right (by simp [HLEN.out])]; simp [HLEN.out]⟩
  have c34 : ∃ v, w5.cell? ⟨g3, 34, none⟩ = some v := ⟨.int .i64 0, by rw [blk_cell hb5, List.getElem?_toArray, List.getElem?_append_right (by simp [HLEN.out])]; simp [HLEN.out]⟩
  obtain ⟨x32, c32⟩ := c32
  obtain ⟨x33, c33⟩ := c33
  obtain ⟨x34, c34⟩ := c34
  have f32 := blk_frozen hb5 32
  have f33 := blk_frozen hb5 33
  have f34 := blk_frozen hb5 34
  clear hb5
  go_upto_region 3 with fail
  have hcs : (rfresh s).cells = List.map (Value.int .u8) (take_ 32 s) ++ [.int .i64 (val (take_ 4 (drop_ 32 s))), .int .i64 (val (take_ 2 (drop_ 4 (drop_ 32 s)))), .int .i64 (val (take_ 1 (drop_ 2 (drop_ 4 (drop_ 32 s))))), .int .i64 0] := rfl
  have hb6 := blk_set (blk_set (blk_set HB5.out 32 (.int .i64 (val (take_ 4 (drop_ 32 s))))) 33 (.int .i64 (val (take_ 2 (drop_ 4 (drop_ 32 s)))))) 34 (.int .i64 (val (take_ 1 (drop_ 2 (drop_ 4 (drop_ 32 s))))))
  rw [fre_set HLEN.out, ← hcs] at hb6
  have HF6 : Hid (Fr (fun k => k = g3) w5 (((w5.setCell ⟨g3, 32, none⟩ (.int .i64 (val (take_ 4 (drop_ 32 s))))).setCell ⟨g3, 33, none⟩ (.int .i64 (val (take_ 2 (drop_ 4 (drop_ 32 s)))))).setCell ⟨g3, 34, none⟩ (.int .i64 (val (take_ 1 (drop_ 2 (drop_ 4 (drop_ 32 s)))))))) :=
    (((Fr.refl (fun k => k = g3) w5).set (p := ⟨g3, 32, none⟩) (.inl rfl) _).set (p := ⟨g3, 33, none⟩) (.inl rfl) _).set (p := ⟨g3, 34, none⟩) (.inl rfl) _
  have HB6 := Lib.hid hb6
  clear hb6 hcs c32 c33 c34 f32 f33 f34
  generalize ((w5.setCell _ _).setCell _ _).setCell _ _ = w6 at *
  have HGG : Hid (gR ≠ g ∧ gR ≠ g3 ∧ gR < g3) := by
    have h1 := HGR.out; have h2 := HLT.out; have h3 := HG3.out; have h4 := HF1.out.size; have h5 := blk_lt HK0.out
    simp only [Hid]; omega
  have hlenc : (rfresh s).cells.length = 36 := by simp [Fre.cells, rfresh, HLEN.out]
  have hs1 : (Tryd.prog.info? 64).map (·.size) = some (rfresh s).cells.length := by rw [hlenc]; exact size64
  have hs2 : (Tryd.prog.info? 64).map (·.size) = some (rfresh s).cells.toArray.size := by rw [List.size_toArray]; exact hs1
  have hz : z64.size = (rfresh s).cells.toArray.size := by show 36 = _; rw [List.size_toArray, hlenc]
  have hr6 : w6.rangeAt g3 0 (rfresh s).cells := fun j v hj => by rw [Nat.zero_add, blk_cell HB6.out, List.getElem?_toArray]; exact hj
  have HKR := Lib.hid (HF6.out.heap (HF5.out.heap (HF2.out.heap (HF1.out.heap HK0.out HGG.out.1) (fun h => h)) HGG.out.1) HGG.out.2.1)
  have HS1 := Lib.hid hs1
  have HS2 := Lib.hid hs2
  have HZ := Lib.hid hz
  have HR6 := Lib.hid hr6
  clear hs1 hs2 hz hr6 hlenc h3g
  go_wp2_with (first | refine wpList_load_mid rfl 64 _ rfl g3 0 rfl _ _ HR6.out Tryd.underlying64 rfl HS1.out ?_ | refine wpList_store_blk rfl 64 _ _ rfl gR _ (rfresh s).cells.toArray 64 rfl rfl HKR.out HZ.out HS2.out (all_oneCell_toArray (rfresh s).one) ?_)
  intro w' k' fr'
  have HFW := Lib.hid fr'
  have HKW := Lib.hid k'
  clear fr' k'
  go_wp2
  refine bodyPost_ret_by (results_cell_row rfl _ _ gR 64 (rfresh s).cells.toArray (0, 0) _ rfl HKW.out Tryd.underlying64 rfl HS2.out) rfl ⟨rfl, ?_, ?_⟩
  · have h1 := HGR.out
    have h2 := HLT.out
    have h3 := HGG.out
    exact ((HR5.out.fr HF6.out (fun k hk e => by omega)).fr HFW.out (fun k hk e => by omega))
  · have h1 := HGR.out
    have h2 := HF.out.size
    have h3 := HGG.out
    have f1 : Fr (fun i => i = g) W w5 := ((HF.out.trans HF1.out (fun i h => .inl h)).trans HF2.out (fun _ h => h.elim)).trans HF5.out (fun i h => .inl h)
    exact (f1.trans HF6.out (fun i h => .inr (by omega))).trans HFW.out (fun i h => .inr (by omega))
end Go.Proofs.YtlagkfiafelnnaaDoor
