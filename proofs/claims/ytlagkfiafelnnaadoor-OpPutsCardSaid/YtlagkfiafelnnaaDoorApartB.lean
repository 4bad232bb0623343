/- ApartBytes: rows that lie apart are found to. (Printed by wip/mkapart.py.) -/
import Derived.Test.YtlagkfiafelnnaaDoorFlatB
import Derived.Test.YtlagkfiafelnnaaDoorNils
set_option linter.unusedVariables false
set_option linter.unusedSimpArgs false
namespace Go.Proofs.YtlagkfiafelnnaaDoor
open Go.RowKit Go.Proofs.YtlagkfiafelnnaaDoorW.PrintWords

set_option maxHeartbeats 4000000 in
set_option maxRecDepth 100000 in
theorem apartB_any (Zo : Nat → Prop) (B K gB gl cl : Nat) (v : Nat → Value) (n : Nat → Nat) (X : Nat → List Value) (W w0 : World) (q0 : KeptZ Zo B W w0) (hb0 : w0.heap[gB]? = some (.cells #[.slice none 0 0, .slice none 0 0, .slice none 0 0, .slice none 0 0, .slice none 0 0, (.slice (some ⟨gl, 0, none⟩) K cl), .slice none 0 0, .slice none 0 0, .slice none 0 0, .slice none 0 0, .slice none 0 0, .slice none 0 0, .slice none 0 0, .slice none 0 0, .slice none 0 0, .slice none 0 0, .slice none 0 0, .slice none 0 0, .slice none 0 0, .slice none 0 0, .slice none 0 0] 100 (0, 0))) (A0 : Arr w0 30 gl K v)
    (F0 : FlatV Zo w0 B K v n X) (hK : K ≤ 1000) (hn : ∀ k, k < K → n k ≤ 1000000000) (s0 : B ≤ w0.heap.size) :
    Calls Tryd.prog 42 #[.pointer (some ⟨gB, 0, none⟩)] w0 fun e W' => e = .returned (.bool true) ∧ KeptZ Zo B W W' := by
  have HN := Lib.hid hn
  clear hn
  go_enter Tryd.func42, Tryd.ntmps42
  have k0 : w0.cell? ⟨gB, 0, none⟩ = some (.slice none 0 0) := (blk_cell hb0 0).trans rfl
  go_wp2_with fail
  refine (flatNilLimbs w0).mono ?_
  rintro e w1 ⟨rfl, b0⟩
  have q1 : KeptZ Zo B W w1 := q0.below b0 s0
  have s1 : B ≤ w1.heap.size := Nat.le_trans s0 b0.size
  have hb1 := (Fr.of_below b0 (fun _ => False)).heap hb0 (fun h => h)
  have F1 := F0.fr (Fr.of_below b0 (fun _ => False)) (fun _ h => h.elim)
  have A1 := A0.fr (Fr.of_below b0 (fun _ => False)) (fun h => h)
  clear b0 k0 q0 s0 hb0 F0 A0
  have k1 : w1.cell? ⟨gB, 1, none⟩ = some (.slice none 0 0) := (blk_cell hb1 1).trans rfl
  go_wp2_with fail
  refine (flatNilWords w1).mono ?_
  rintro e w2 ⟨rfl, b1⟩
  have q2 : KeptZ Zo B W w2 := q1.below b1 s1
  have s2 : B ≤ w2.heap.size := Nat.le_trans s1 b1.size
  have hb2 := (Fr.of_below b1 (fun _ => False)).heap hb1 (fun h => h)
  have F2 := F1.fr (Fr.of_below b1 (fun _ => False)) (fun _ h => h.elim)
  have A2 := A1.fr (Fr.of_below b1 (fun _ => False)) (fun h => h)
  clear b1 k1 q1 s1 hb1 F1 A1
  have k2 : w2.cell? ⟨gB, 2, none⟩ = some (.slice none 0 0) := (blk_cell hb2 2).trans rfl
  go_wp2_with fail
  refine (flatNilInts w2).mono ?_
  rintro e w3 ⟨rfl, b2⟩
  have q3 : KeptZ Zo B W w3 := q2.below b2 s2
  have s3 : B ≤ w3.heap.size := Nat.le_trans s2 b2.size
  have hb3 := (Fr.of_below b2 (fun _ => False)).heap hb2 (fun h => h)
  have F3 := F2.fr (Fr.of_below b2 (fun _ => False)) (fun _ h => h.elim)
  have A3 := A2.fr (Fr.of_below b2 (fun _ => False)) (fun h => h)
  clear b2 k2 q2 s2 hb2 F2 A2
  have k3 : w3.cell? ⟨gB, 3, none⟩ = some (.slice none 0 0) := (blk_cell hb3 3).trans rfl
  go_wp2_with fail
  refine (flatNilLongs w3).mono ?_
  rintro e w4 ⟨rfl, b3⟩
  have q4 : KeptZ Zo B W w4 := q3.below b3 s3
  have s4 : B ≤ w4.heap.size := Nat.le_trans s3 b3.size
  have hb4 := (Fr.of_below b3 (fun _ => False)).heap hb3 (fun h => h)
  have F4 := F3.fr (Fr.of_below b3 (fun _ => False)) (fun _ h => h.elim)
  have A4 := A3.fr (Fr.of_below b3 (fun _ => False)) (fun h => h)
  clear b3 k3 q3 s3 hb3 F3 A3
  have k4 : w4.cell? ⟨gB, 4, none⟩ = some (.slice none 0 0) := (blk_cell hb4 4).trans rfl
  go_wp2_with fail
  refine (flatNilTexts w4).mono ?_
  rintro e w5 ⟨rfl, b4⟩
  have q5 : KeptZ Zo B W w5 := q4.below b4 s4
  have s5 : B ≤ w5.heap.size := Nat.le_trans s4 b4.size
  have hb5 := (Fr.of_below b4 (fun _ => False)).heap hb4 (fun h => h)
  have F5 := F4.fr (Fr.of_below b4 (fun _ => False)) (fun _ h => h.elim)
  have A5 := A4.fr (Fr.of_below b4 (fun _ => False)) (fun h => h)
  clear b4 k4 q4 s4 hb4 F4 A4
  have k5 : w5.cell? ⟨gB, 5, none⟩ = some (.slice (some ⟨gl, 0, none⟩) K cl) := (blk_cell hb5 5).trans rfl
  go_wp2_with fail
  have hA5 := A5
  obtain ⟨csl, hcl, hcv⟩ := hA5
  refine (flatBytes_any Zo B K gl cl csl v n X w5 hcl hcv F5 hK HN.out s5 gB _ _ hb5 (by decide) (by decide)).mono ?_
  rintro e w6 ⟨rfl, z5⟩
  have b5 := z5.1
  have hb6 := z5.2.1
  have q6 : KeptZ Zo B W w6 := q5.bel' z5
  have s6 : B ≤ w6.heap.size := Nat.le_trans s5 b5.size
  clear z5 b5 k5 q5 s5 hb5 F5 A5
  have k6 : w6.cell? ⟨gB, 6, none⟩ = some (.slice none 0 0) := (blk_cell hb6 6).trans rfl
  go_wp2_with fail
  refine (flatNilTreeKeys w6).mono ?_
  rintro e w7 ⟨rfl, b6⟩
  have q7 : KeptZ Zo B W w7 := q6.below b6 s6
  have s7 : B ≤ w7.heap.size := Nat.le_trans s6 b6.size
  have hb7 := (Fr.of_below b6 (fun _ => False)).heap hb6 (fun h => h)
  clear b6 k6 q6 s6 hb6
  have k7 : w7.cell? ⟨gB, 7, none⟩ = some (.slice none 0 0) := (blk_cell hb7 7).trans rfl
  go_wp2_with fail
  refine (flatNilPieces w7).mono ?_
  rintro e w8 ⟨rfl, b7⟩
  have q8 : KeptZ Zo B W w8 := q7.below b7 s7
  have s8 : B ≤ w8.heap.size := Nat.le_trans s7 b7.size
  have hb8 := (Fr.of_below b7 (fun _ => False)).heap hb7 (fun h => h)
  clear b7 k7 q7 s7 hb7
  have k8 : w8.cell? ⟨gB, 8, none⟩ = some (.slice none 0 0) := (blk_cell hb8 8).trans rfl
  go_wp2_with fail
  refine (flatNilFates w8).mono ?_
  rintro e w9 ⟨rfl, b8⟩
  have q9 : KeptZ Zo B W w9 := q8.below b8 s8
  have s9 : B ≤ w9.heap.size := Nat.le_trans s8 b8.size
  have hb9 := (Fr.of_below b8 (fun _ => False)).heap hb8 (fun h => h)
  clear b8 k8 q8 s8 hb8
  have k9 : w9.cell? ⟨gB, 9, none⟩ = some (.slice none 0 0) := (blk_cell hb9 9).trans rfl
  go_wp2_with fail
  refine (flatNilFrames w9).mono ?_
  rintro e w10 ⟨rfl, b9⟩
  have q10 : KeptZ Zo B W w10 := q9.below b9 s9
  have s10 : B ≤ w10.heap.size := Nat.le_trans s9 b9.size
  have hb10 := (Fr.of_below b9 (fun _ => False)).heap hb9 (fun h => h)
  clear b9 k9 q9 s9 hb9
  have k10 : w10.cell? ⟨gB, 10, none⟩ = some (.slice none 0 0) := (blk_cell hb10 10).trans rfl
  go_wp2_with fail
  refine (flatNilPlaces w10).mono ?_
  rintro e w11 ⟨rfl, b10⟩
  have q11 : KeptZ Zo B W w11 := q10.below b10 s10
  have s11 : B ≤ w11.heap.size := Nat.le_trans s10 b10.size
  have hb11 := (Fr.of_below b10 (fun _ => False)).heap hb10 (fun h => h)
  clear b10 k10 q10 s10 hb10
  have k11 : w11.cell? ⟨gB, 11, none⟩ = some (.slice none 0 0) := (blk_cell hb11 11).trans rfl
  go_wp2_with fail
  refine (flatNilEntries w11).mono ?_
  rintro e w12 ⟨rfl, b11⟩
  have q12 : KeptZ Zo B W w12 := q11.below b11 s11
  have s12 : B ≤ w12.heap.size := Nat.le_trans s11 b11.size
  have hb12 := (Fr.of_below b11 (fun _ => False)).heap hb11 (fun h => h)
  clear b11 k11 q11 s11 hb11
  have k12 : w12.cell? ⟨gB, 12, none⟩ = some (.slice none 0 0) := (blk_cell hb12 12).trans rfl
  go_wp2_with fail
  refine (flatNilNodes w12).mono ?_
  rintro e w13 ⟨rfl, b12⟩
  have q13 : KeptZ Zo B W w13 := q12.below b12 s12
  have s13 : B ≤ w13.heap.size := Nat.le_trans s12 b12.size
  have hb13 := (Fr.of_below b12 (fun _ => False)).heap hb12 (fun h => h)
  clear b12 k12 q12 s12 hb12
  have k13 : w13.cell? ⟨gB, 13, none⟩ = some (.slice none 0 0) := (blk_cell hb13 13).trans rfl
  go_wp2_with fail
  refine (flatNilItems w13).mono ?_
  rintro e w14 ⟨rfl, b13⟩
  have q14 : KeptZ Zo B W w14 := q13.below b13 s13
  have s14 : B ≤ w14.heap.size := Nat.le_trans s13 b13.size
  have hb14 := (Fr.of_below b13 (fun _ => False)).heap hb13 (fun h => h)
  clear b13 k13 q13 s13 hb13
  have k14 : w14.cell? ⟨gB, 14, none⟩ = some (.slice none 0 0) := (blk_cell hb14 14).trans rfl
  go_wp2_with fail
  refine (flatNilCounts w14).mono ?_
  rintro e w15 ⟨rfl, b14⟩
  have q15 : KeptZ Zo B W w15 := q14.below b14 s14
  have s15 : B ≤ w15.heap.size := Nat.le_trans s14 b14.size
  have hb15 := (Fr.of_below b14 (fun _ => False)).heap hb14 (fun h => h)
  clear b14 k14 q14 s14 hb14
  have k15 : w15.cell? ⟨gB, 15, none⟩ = some (.slice none 0 0) := (blk_cell hb15 15).trans rfl
  go_wp2_with fail
  refine (flatNilFreshes w15).mono ?_
  rintro e w16 ⟨rfl, b15⟩
  have q16 : KeptZ Zo B W w16 := q15.below b15 s15
  have s16 : B ≤ w16.heap.size := Nat.le_trans s15 b15.size
  have hb16 := (Fr.of_below b15 (fun _ => False)).heap hb15 (fun h => h)
  clear b15 k15 q15 s15 hb15
  have k16 : w16.cell? ⟨gB, 16, none⟩ = some (.slice none 0 0) := (blk_cell hb16 16).trans rfl
  go_wp2_with fail
  refine (flatNilPuts w16).mono ?_
  rintro e w17 ⟨rfl, b16⟩
  have q17 : KeptZ Zo B W w17 := q16.below b16 s16
  have s17 : B ≤ w17.heap.size := Nat.le_trans s16 b16.size
  have hb17 := (Fr.of_below b16 (fun _ => False)).heap hb16 (fun h => h)
  clear b16 k16 q16 s16 hb16
  have k17 : w17.cell? ⟨gB, 17, none⟩ = some (.slice none 0 0) := (blk_cell hb17 17).trans rfl
  go_wp2_with fail
  refine (flatNilOps w17).mono ?_
  rintro e w18 ⟨rfl, b17⟩
  have q18 : KeptZ Zo B W w18 := q17.below b17 s17
  have s18 : B ≤ w18.heap.size := Nat.le_trans s17 b17.size
  have hb18 := (Fr.of_below b17 (fun _ => False)).heap hb17 (fun h => h)
  clear b17 k17 q17 s17 hb17
  have k18 : w18.cell? ⟨gB, 18, none⟩ = some (.slice none 0 0) := (blk_cell hb18 18).trans rfl
  go_wp2_with fail
  refine (flatNilSteps w18).mono ?_
  rintro e w19 ⟨rfl, b18⟩
  have q19 : KeptZ Zo B W w19 := q18.below b18 s18
  have s19 : B ≤ w19.heap.size := Nat.le_trans s18 b18.size
  have hb19 := (Fr.of_below b18 (fun _ => False)).heap hb18 (fun h => h)
  clear b18 k18 q18 s18 hb18
  have k19 : w19.cell? ⟨gB, 19, none⟩ = some (.slice none 0 0) := (blk_cell hb19 19).trans rfl
  go_wp2_with fail
  refine (flatNilStats w19).mono ?_
  rintro e w20 ⟨rfl, b19⟩
  have q20 : KeptZ Zo B W w20 := q19.below b19 s19
  have s20 : B ≤ w20.heap.size := Nat.le_trans s19 b19.size
  have hb20 := (Fr.of_below b19 (fun _ => False)).heap hb19 (fun h => h)
  clear b19 k19 q19 s19 hb19
  have k20 : w20.cell? ⟨gB, 20, none⟩ = some (.slice none 0 0) := (blk_cell hb20 20).trans rfl
  go_wp2_with fail
  refine (flatNilTales w20).mono ?_
  rintro e w21 ⟨rfl, b20⟩
  have q21 : KeptZ Zo B W w21 := q20.below b20 s20
  have s21 : B ≤ w21.heap.size := Nat.le_trans s20 b20.size
  have hb21 := (Fr.of_below b20 (fun _ => False)).heap hb20 (fun h => h)
  clear b20 k20 q20 s20 hb20
  go_wp2
  go_ret
  exact ⟨rfl, q21⟩

/-! ### putBytes, ApartBytes -/
def bagB (bl : Value) : Array Value := #[.slice none 0 0, .slice none 0 0, .slice none 0 0, .slice none 0 0, .slice none 0 0, bl, .slice none 0 0, .slice none 0 0, .slice none 0 0, .slice none 0 0, .slice none 0 0, .slice none 0 0, .slice none 0 0, .slice none 0 0, .slice none 0 0, .slice none 0 0, .slice none 0 0, .slice none 0 0, .slice none 0 0, .slice none 0 0, .slice none 0 0]

set_option maxHeartbeats 1000000 in
set_option maxRecDepth 100000 in
theorem putB_any (Bb gB k : Nat) (A : Option Addr) (m c : Nat) (bl : Value) (vs : List Value) (W : World) (hb : W.heap[gB]? = some (.cells (bagB bl) 100 (0, 0))) (ho : W.ownsRow Bb 30 1 bl k vs) (hk : k ≤ 100000) (hB : Bb ≤ W.heap.size) :
    Calls Tryd.prog 41 #[.pointer (some ⟨gB, 0, none⟩), .slice A m c] W fun e W' => ∃ bl', e = .returned (.tuple #[]) ∧ W'.heap[gB]? = some (.cells (bagB bl') 100 (0, 0)) ∧ W'.ownsRow Bb 30 1 bl' (k + 1) (vs ++ [.slice A m c]) ∧ Fr (fun b => b = gB ∨ bl.ownBlock = some b) W W' := by
  have k5 : W.cell? ⟨gB, 5, none⟩ = some bl := (blk_cell hb 5).trans rfl
  obtain ⟨A1, c1, hbl⟩ := own_slice ho
  have HB := Lib.hid hb
  have HO := Lib.hid ho
  have HBL := Lib.hid hbl
  clear hb ho
  rw [hbl] at k5
  clear hbl
  go_enter Tryd.func41, Tryd.ntmps41
  go_wp2_with (at_builtin; refine wpList_append_ext Bb rfl _ _ 38 30 (.slice none 0 0) 1 24 rfl Tryd.underlying38 infoRow rfl (by decide) (by decide) (.slice A1 k c1) k vs rfl ((HBL.out ▸ HO.out).alloc _) ⟨W.heap.size, 0, none⟩ 1 1 [.slice A m c] rfl (by decide) rfl (cell_one_new _ _ _) (by simp [Value.oneCell']) (by simp; omega) (by omega) ?_)
  intro x' w' ho' hg'
  have f1 : Fr (fun b => b = gB ∨ bl.ownBlock = some b) W (W.alloc (.cells #[.slice A m c] 30)) := (Fr.refl _ W).alloc _
  have f2 : Fr (fun b => b = gB ∨ bl.ownBlock = some b) W w' := by
    rcases hg' with ⟨b, cap, e1, e2, hg⟩ | ⟨hg, _⟩
    · refine f1.grown hg (fun i hi => .inl (.inr ?_))
      rw [HBL.out, e1]
      exact hi
    · exact f1.grown hg (fun i hi => by simp at hi)
  have hne : gB ≠ gB + 1 := by omega
  have hb' : w'.heap[gB]? = some (.cells (bagB bl) 100 (0, 0)) := by
    have ha := blk_alloc HB.out (.cells #[.slice A m c] 30)
    rcases hg' with ⟨b, cap, e1, e2, hg⟩ | ⟨hg, _⟩
    · refine blk_grown ha hg ?_
      have h0 := own_ne HO.out HB.out (by decide)
      rw [HBL.out, e1] at h0
      exact h0
    · exact blk_grown ha hg (by simp)
  have z5 := blk_frozen hb' 5
  have k5' : w'.cell? ⟨gB, 5, none⟩ = some bl := (blk_cell hb' 5).trans rfl
  obtain ⟨A2, c2, rfl⟩ := own_slice ho'
  have f3 := f2.set (p := ⟨gB, 5, none⟩) (.inl (.inl rfl)) (.slice A2 (k + 1) c2)
  have hs := blk_set hb' 5 (.slice A2 (k + 1) c2)
  have ho3 : (w'.setCell ⟨gB, 5, none⟩ (.slice A2 (k + 1) c2)).ownsRow Bb 30 1 (.slice A2 (k + 1) c2) (k + 1) (vs ++ [.slice A m c]) := own_setCell ho' (own_ne ho' hb' (by decide)) _
  have HF3 := Lib.hid f3
  have HS := Lib.hid hs
  have HO3 := Lib.hid ho3
  clear f1 f2 f3 hs ho3 ho' hg' hb' k5
  go_wp2
  go_end0
  exact ⟨_, rfl, HS.out, HO3.out, HF3.out⟩

theorem arr_of_own {w : World} {Bb K : Nat} {bl : Value} {v : Nat → Value} (ho : w.ownsRow Bb 30 1 bl K ((List.range K).map v)) (hK : 0 < K) : ∃ gl cl, bl = .slice (some ⟨gl, 0, none⟩) K cl ∧ Arr w 30 gl K v := by
  rcases ho.2 with ⟨_, h0⟩ | ⟨g, cap, cur, rfl, hb, hh, hnc, hcm, hcs, htake⟩
  · omega
  · refine ⟨g, cap, rfl, cur, hh, fun j hj => ?_⟩
    have h1 : (cur.toList.take (K * 1))[j]? = some (v j) := by rw [htake]; simp [hj]
    rw [List.getElem?_take, if_pos (by omega)] at h1
    simpa using h1

set_option maxHeartbeats 1000000 in
set_option maxRecDepth 100000 in
theorem apartBytesZ_any (Zo : Nat → Prop) (B K gls cls : Nat) (v : Nat → Value) (n : Nat → Nat) (X : Nat → List Value) (W : World) (hA : Arr W 30 gls K v) (hF : FlatV Zo W B K v n X) (hK0 : 0 < K) (hK : K ≤ 1000) (hn : ∀ k, k < K → n k ≤ 1000000000) (hB : B ≤ W.heap.size) :
    Calls Tryd.prog 17 #[.slice (some ⟨gls, 0, none⟩) K cls] W fun e W' => e = .returned (.bool true) ∧ KeptZ Zo B W W' := by
  have HA := Lib.hid hA
  have HF := Lib.hid hF
  have HN := Lib.hid hn
  clear hA hF hn
  go_enter Tryd.func17, Tryd.ntmps17
  go_upto_region 2 with fail
  obtain ⟨gB, hgB⟩ : ∃ gB, gB = W.heap.size := ⟨_, rfl⟩
  rw [← hgB]
  generalize hW1 : W.alloc _ = w1
  have hb1 : w1.heap[gB]? = some (.cells (bagB (.slice none 0 0)) 100 (0, 0)) := by rw [← hW1, hgB]; exact heap_alloc_new W _
  have f1 : Fr (fun _ => False) W w1 := by rw [← hW1]; exact (Fr.refl _ W).alloc _
  have ss1 : gB < w1.heap.size := blk_lt hb1
  have HB1 := Lib.hid hb1
  have HA1 := Lib.hid (HA.out.fr f1 (fun h => h))
  have HF1 := Lib.hid (HF.out.fr f1 (fun _ h => h.elim))
  have bb1 : KeptZ Zo B W w1 := KeptZ.fr ⟨Below.refl _ _, HF.out.zl, fun _ _ => rfl⟩ f1 hB (fun _ h => h.elim) (fun _ h => h.elim)
  have hzo : ∀ b, Zo b → b < gB := fun b hb => by rw [hgB]; exact HF.out.zl b hb
  have HZO := Lib.hid hzo
  clear hzo
  have hgl : gls < gB := by rw [hgB]; exact HA.out.lt
  have hgBB : B ≤ gB := by omega
  have HGB := Lib.hid hgB
  have rowlt : ∀ k b, k < K → (v k).ownBlock = some b → b < gB := fun k b hk hb => by rw [hgB]; exact own_lt (HF.out.ov k hk) b hb
  have HRL := Lib.hid rowlt
  clear hW1 f1 hb1 hgB HA HF rowlt
  go_wp2_with fail
  go_loopg [4] K (fun gk v4 wr => ∃ (k : Nat) (bl : Value), Hid (gk + k = K) ∧ v4 = .int .i64 (k : Int) ∧ k ≤ K ∧ Hid (wr.heap[gB]? = some (.cells (bagB bl) 100 (0, 0))) ∧ Hid (wr.ownsRow gB 30 1 bl k ((List.range k).map v)) ∧ Hid (Arr wr 30 gls K v) ∧ Hid (FlatV Zo wr B K v n X) ∧ KeptZ Zo B W wr ∧ gB < wr.heap.size)
  case atStart => exact ⟨0, .slice none 0 0, by simp [Hid], rfl, by omega, HB1.out, World.ownsRow_nil _ _ _ _, HA1.out, HF1.out, bb1, ss1⟩
  case round =>
    clear HB1 HA1 HF1 bb1 ss1
    obtain ⟨k, bl, HG, rfl, hkK, HBG, HO, HA, HF, bb, ss⟩ := hrel
    by_cases hlt : k < K
    · have t0 : (k : Int) < (K : Int) := by omega
      have k1 := HA.out.cell hlt
      obtain ⟨A, c, hvk⟩ := own_slice (HF.out.ov k hlt)
      rw [hvk] at k1
      have HVK := Lib.hid hvk
      clear hvk
      go_wp2_with fail
      refine (putB_any gB gB k A (n k) c bl _ wr HBG.out HO.out (by omega) (by omega)).mono ?_
      rintro e w2 ⟨bl', rfl, hb2, ho2, f2⟩
      have ho3 : w2.ownsRow gB 30 1 bl' (k + 1) ((List.range (k + 1)).map v) := by
        rw [List.range_succ, List.map_append, List.map_singleton, HVK.out]
        exact ho2
      have far : ∀ b, (b = gB ∨ bl.ownBlock = some b) → gB ≤ b := fun b hb => hb.elim (fun e => by omega) (fun e => own_base HO.out b e)
      have HA2 := Lib.hid (HA.out.fr f2 (fun h => by have := far _ h; omega))
      have HF2 := Lib.hid (HF.out.fr f2 (fun b hb j hj hB => by
        rcases hB with hB | hB
        · have := HRL.out j b hj hB; have := far _ hb; omega
        · simp [nilS, Value.ownBlock] at hB))
      have bb2 := bb.fr f2 (by omega) (fun b hb => Nat.le_trans hgBB (far b hb)) (fun b hb hz => by have := HZO.out b hz; have := far b hb; omega)
      have ss2 : gB < w2.heap.size := Nat.lt_of_lt_of_le ss f2.size
      have HB2 := Lib.hid hb2
      have HO2 := Lib.hid ho3
      clear hb2 ho2 ho3 f2 far k1
      go_wp2_with fail
      go_roundg (gk - 1)
      case measure => have := HG.out; omega
      case rel => exact ⟨k + 1, bl', by have := HG.out; simp only [Hid]; omega, by go_num, by omega, HB2.out, HO2.out, HA2.out, HF2.out, bb2, ss2⟩
    · have t0 : ¬ (k : Int) < (K : Int) := by omega
      have hke : K = k := by omega
      subst hke
      obtain ⟨gl, cl, rfl, hArr⟩ := arr_of_own HO.out hK0
      go_wp2_with fail
      refine (apartB_any Zo B K gB gl cl v n X W wr bb HBG.out hArr HF.out hK HN.out (by omega)).mono ?_
      rintro e w2 ⟨rfl, b2⟩
      go_wp2
      go_ret
      exact ⟨rfl, b2⟩

theorem apartBytes_any (B K gls cls : Nat) (v : Nat → Value) (n : Nat → Nat) (X : Nat → List Value) (W : World) (hA : Arr W 30 gls K v) (hF : FlatV (fun _ => False) W B K v n X) (hK0 : 0 < K) (hK : K ≤ 1000) (hn : ∀ k, k < K → n k ≤ 1000000000) (hB : B ≤ W.heap.size) :
    Calls Tryd.prog 17 #[.slice (some ⟨gls, 0, none⟩) K cls] W fun e W' => e = .returned (.bool true) ∧ Below B W W' :=
  (apartBytesZ_any (fun _ => False) B K gls cls v n X W hA hF hK0 hK hn hB).mono fun e W' ⟨he, h⟩ => ⟨he, h.bel⟩

end Go.Proofs.YtlagkfiafelnnaaDoor
