/- OverFreshes, OverPuts, OverOp. -/
import Derived.Test.YtlagkfiafelnnaaDoorLentO
set_option linter.unusedVariables false
set_option linter.unusedSimpArgs false
namespace Go.Proofs.YtlagkfiafelnnaaDoor
open Go.RowKit Go.Proofs.YtlagkfiafelnnaaDoorW.PrintWords

theorem Fr.setCells {S : Nat → Prop} {W : World} {b : Nat} (hs : S b) : ∀ (vs : List Value) (o : Nat) (W1 : World), Fr S W W1 → Fr S W (W1.setCells b o vs)
  | [], _, _, h => h
  | v :: r, o, W1, h => Fr.setCells hs r (o + 1) _ (h.set (p := ⟨b, o, none⟩) (.inl hs) v)
theorem there_part {w : World} {b o n o' n' : Nat} (h : w.there b o n) (h1 : o ≤ o') (h2 : o' + n' ≤ o + n) : w.there b o' n' := fun j hj => by
  have := h (o' - o + j) (by omega)
  rwa [show o + (o' - o + j) = o' + j by omega] at this
theorem there_below {w w' : World} {b o n : Nat} (h : w.there b o n) (hb : b < w.heap.size) (q : Below w.heap.size w w') : w'.there b o n := fun j hj => by
  have h1 := World.cell?_of_block (w := w) (a := ⟨b, o + j, none⟩) (q.block b hb)
  have h2 := World.frozen?_of_block (w := w) (a := ⟨b, o + j, none⟩) (q.block b hb)
  rw [h1, h2]
  exact h j hj
theorem own_there {w : World} {base : Nat} {e : TypeId} {size g cap n : Nat} {xs : List Value} (h : w.ownsRow base e size (.slice (some ⟨g, 0, none⟩) n cap) n xs) : w.there g 0 (n * size) := fun j hj => by
  rw [Nat.zero_add]
  refine ⟨?_, h.frozenAt j⟩
  rw [h.cellAt j hj, List.getElem?_eq_getElem (by rw [h.1]; exact hj)]
  rfl

set_option maxHeartbeats 1000000 in
set_option maxRecDepth 100000 in
theorem overF_any (B b : Nat) (xs : List Fre) (W : World) (h : IsLentF W B b xs) (hl : xs.length ≤ 1000000) :
    Calls Tryd.prog 38 #[.slice (some ⟨b, 0, none⟩) xs.length (xs.length + 12)] W fun e W' => e = .returned (.tuple #[]) ∧ Fr (fun k => k = b) W W' := by
  have HT := Lib.hid (own_there h.1)
  have HL := Lib.hid h.lt
  have t1 : (xs.length : Int) + 12 ≤ ((xs.length + 12 : Nat) : Int) := by omega
  have f0 : Hid (Fr (fun k => k = b) W W) := Fr.refl _ _
  clear h
  go_enter Tryd.func38, Tryd.ntmps38
  go_wp2_with fail
  go_loopw [3] (fun v3 wr => ∃ i : Nat, i ≤ xs.length + 12 ∧ v3 = .int .i64 (i : Int) ∧ Hid (wr.there b 0 ((xs.length + 12) * 36)) ∧ Hid (Fr (fun k => k = b) W wr)) (fun v3 _ => xs.length + 12 - (intOf v3).toNat)
  case atStart => exact ⟨0, Nat.zero_le _, rfl, HT.out, f0.out⟩
  case round =>
    clear HT f0
    obtain ⟨i, hi, rfl, HT, HF⟩ := hrel
    by_cases hlt : i < xs.length + 12
    · have z0 : (0 : Int) ≤ (i : Int) := by omega
      have z1 : (i : Int) < (xs.length : Int) + 12 := by omega
      have hlen := (mFre_wf 2 (i : Int) (by omega) (by omega) (by omega) (by omega)).len
      have hM := markFresh_any 2 (i : Int) wr (by omega) (by omega) (by omega) (by omega)
      have hone := (mFre 2 (i : Int)).one
      generalize (mFre 2 (i : Int)).cells = MC at hlen hM hone
      have HLEN := Lib.hid hlen
      have HONE := Lib.hid (all_oneCell_toArray hone)
      have HM := Lib.hid hM
      clear hlen hM hone
      go_wp2_with fail
      refine HM.out.mono ?_
      rintro e w1 ⟨rfl, q1⟩
      have HT1 := Lib.hid (there_below HT.out (Nat.lt_of_lt_of_le HL.out HF.out.size) q1)
      have HF1 : Hid (Fr (fun k => k = b) W w1) := HF.out.trans (Fr.of_below q1 (fun _ => False)) (fun _ h => h.elim)
      have HTP : Hid (w1.there b (i * 36) MC.toArray.size) := by
        simp only [Hid]; rw [List.size_toArray, HLEN.out]; exact there_part HT1.out (by omega) (by have : (i + 1) * 36 ≤ (xs.length + 12) * 36 := Nat.mul_le_mul_right _ hlt; omega)
      have HSZ : Hid ((Tryd.prog.info? 64).map (·.size) = some MC.toArray.size) := by simp only [Hid]; rw [List.size_toArray, HLEN.out]; exact size64
      clear q1 HT HF
      go_wp2_with (refine wpList_store_mid rfl 64 (.tmp 19) (.tmp 18) rfl b (i * 36) MC.toArray rfl rfl HTP.out HSZ.out HONE.out ?_)
      have HT2 := Lib.hid (World.there_setCells HT1.out b (i * 36) MC)
      have HF2 := Lib.hid (Fr.setCells (S := fun k => k = b) rfl MC (i * 36) w1 HF1.out)
      generalize w1.setCells _ _ _ = w2 at *
      clear HTP HSZ HT1 HF1
      go_wp2
      go_roundw
      case rel => exact ⟨i + 1, by omega, by go_num, HT2.out, HF2.out⟩
      case measure => simp [intOf]; omega
    · have z1 : ¬ (i : Int) < (xs.length : Int) + 12 := by omega
      go_wp2
      go_end0
      exact ⟨rfl, HF.out⟩

set_option maxHeartbeats 1000000 in
set_option maxRecDepth 100000 in
theorem overP_any (B b : Nat) (xs : List Pu) (W : World) (h : IsLentP W B b xs) (hl : xs.length ≤ 1000000) :
    Calls Tryd.prog 39 #[.slice (some ⟨b, 0, none⟩) xs.length (xs.length + 12)] W fun e W' => e = .returned (.tuple #[]) ∧ Fr (fun k => k = b) W W' := by
  have HT := Lib.hid (own_there h.1)
  have HL := Lib.hid h.lt
  have t1 : (xs.length : Int) + 12 ≤ ((xs.length + 12 : Nat) : Int) := by omega
  have f0 : Hid (Fr (fun k => k = b) W W) := Fr.refl _ _
  clear h
  go_enter Tryd.func39, Tryd.ntmps39
  go_wp2_with fail
  go_loopw [3] (fun v3 wr => ∃ i : Nat, i ≤ xs.length + 12 ∧ v3 = .int .i64 (i : Int) ∧ Hid (wr.there b 0 ((xs.length + 12) * 35)) ∧ Hid (Fr (fun k => k = b) W wr)) (fun v3 _ => xs.length + 12 - (intOf v3).toNat)
  case atStart => exact ⟨0, Nat.zero_le _, rfl, HT.out, f0.out⟩
  case round =>
    clear HT f0
    obtain ⟨i, hi, rfl, HT, HF⟩ := hrel
    by_cases hlt : i < xs.length + 12
    · have z0 : (0 : Int) ≤ (i : Int) := by omega
      have z1 : (i : Int) < (xs.length : Int) + 12 := by omega
      have hlen := (mPu_wf 2 (i : Int) (by omega) (by omega) (by omega) (by omega)).len
      have hM := markPut_any 2 (i : Int) wr (by omega) (by omega) (by omega) (by omega)
      have hone := (mPu 2 (i : Int)).one
      generalize (mPu 2 (i : Int)).cells = MC at hlen hM hone
      have HLEN := Lib.hid hlen
      have HONE := Lib.hid (all_oneCell_toArray hone)
      have HM := Lib.hid hM
      clear hlen hM hone
      go_wp2_with fail
      refine HM.out.mono ?_
      rintro e w1 ⟨rfl, q1⟩
      have HT1 := Lib.hid (there_below HT.out (Nat.lt_of_lt_of_le HL.out HF.out.size) q1)
      have HF1 : Hid (Fr (fun k => k = b) W w1) := HF.out.trans (Fr.of_below q1 (fun _ => False)) (fun _ h => h.elim)
      have HTP : Hid (w1.there b (i * 35) MC.toArray.size) := by
        simp only [Hid]; rw [List.size_toArray, HLEN.out]; exact there_part HT1.out (by omega) (by have : (i + 1) * 35 ≤ (xs.length + 12) * 35 := Nat.mul_le_mul_right _ hlt; omega)
      have HSZ : Hid ((Tryd.prog.info? 72).map (·.size) = some MC.toArray.size) := by simp only [Hid]; rw [List.size_toArray, HLEN.out]; exact size72
      clear q1 HT HF
      go_wp2_with (refine wpList_store_mid rfl 72 (.tmp 19) (.tmp 18) rfl b (i * 35) MC.toArray rfl rfl HTP.out HSZ.out HONE.out ?_)
      have HT2 := Lib.hid (World.there_setCells HT1.out b (i * 35) MC)
      have HF2 := Lib.hid (Fr.setCells (S := fun k => k = b) rfl MC (i * 35) w1 HF1.out)
      generalize w1.setCells _ _ _ = w2 at *
      clear HTP HSZ HT1 HF1
      go_wp2
      go_roundw
      case rel => exact ⟨i + 1, by omega, by go_num, HT2.out, HF2.out⟩
      case measure => simp [intOf]; omega
    · have z1 : ¬ (i : Int) < (xs.length : Int) + 12 := by omega
      go_wp2
      go_end0
      exact ⟨rfl, HF.out⟩

set_option maxHeartbeats 1000000 in
set_option maxRecDepth 100000 in
theorem overOp_any (o : OpV) (B bN bP : Nat) (W : World) (hLN : IsLentF W B bN o.news) (hLP : IsLentP W B bP o.puts) (hne : bN ≠ bP) (hl : o.news.length ≤ 1000000) (hl2 : o.puts.length ≤ 1000000) :
    Calls Tryd.prog 14 #[opVal o (.slice (some ⟨bN, 0, none⟩) o.news.length (o.news.length + 12)) (.slice (some ⟨bP, 0, none⟩) o.puts.length (o.puts.length + 12))] W fun e W' => e = .returned (.tuple #[]) ∧ Fr (fun k => k = bN ∨ k = bP) W W' := by
  have HLN := Lib.hid hLN
  have HLP := Lib.hid hLP
  clear hLN hLP
  unfold opVal
  go_enter Tryd.func14, Tryd.ntmps14
  go_upto_region 1 with fail
  generalize hW1 : World.alloc W _ = W1
  have hb1 : W1.heap[W.heap.size]? = some (.cells #[.int .u8 o.kind, .int .i64 o.at_, .int .i64 o.n, .int .i64 o.snap, .slice (some ⟨bN, 0, none⟩) o.news.length (o.news.length + 12), .slice (some ⟨bP, 0, none⟩) o.puts.length (o.puts.length + 12)] 26 (0, 0)) := by
    rw [← hW1]; exact heap_alloc_new W _
  have f1 : Fr (fun _ => False) W W1 := by rw [← hW1]; exact (Fr.refl _ W).alloc _
  obtain ⟨gB, hgB⟩ : ∃ gB, gB = W.heap.size := ⟨_, rfl⟩
  rw [← hgB] at hb1 ⊢
  have HGB := Lib.hid hgB
  have HB1 := Lib.hid hb1
  have HF1 := Lib.hid f1
  have HLN1 := Lib.hid (HLN.out.fr f1 (fun h => h))
  have HLP1 := Lib.hid (HLP.out.fr f1 (fun h => h))
  have HLT : Hid (bN < W.heap.size ∧ bP < W.heap.size) := ⟨HLN.out.lt, HLP.out.lt⟩
  clear hW1 hb1 f1 hgB HLN HLP
  have k4 := blk_cell HB1.out 4
  simp only [List.getElem?_toArray, List.getElem?_cons_zero, List.getElem?_cons_succ] at k4
  go_wp2_with fail
  refine (overF_any B bN o.news W1 HLN1.out hl).mono ?_
  rintro e w2 ⟨rfl, q2⟩
  have HB2 := Lib.hid (q2.heap HB1.out (by have := HGB.out; have := HLT.out; omega))
  have HLP2 := Lib.hid (HLP1.out.fr q2 (fun e => hne e.symm))
  have HF2 : Hid (Fr (fun k => k = bN ∨ k = bP) W w2) := (HF1.out.mono (fun _ h => h.elim)).trans q2 (fun i h => .inl (.inl h))
  clear q2 k4 HB1 HLN1 HLP1 HF1
  have k5 := blk_cell HB2.out 5
  simp only [List.getElem?_toArray, List.getElem?_cons_zero, List.getElem?_cons_succ] at k5
  go_wp2_with fail
  refine (overP_any B bP o.puts w2 HLP2.out hl2).mono ?_
  rintro e w3 ⟨rfl, q3⟩
  have hfin : Fr (fun k => k = bN ∨ k = bP) W w3 := HF2.out.trans q3 (fun i h => .inl (.inr h))
  have HFIN := Lib.hid hfin
  clear hfin q3 k5
  go_wp2
  go_end0
  exact ⟨rfl, HFIN.out⟩
end Go.Proofs.YtlagkfiafelnnaaDoor
