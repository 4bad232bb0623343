/- The chapter's example of op ('awake'): it answers true, and leaves all memory that was there as it was. -/
import Derived.Test.YtlagkfiafelnnaaDoorOpGet
import Derived.Test.YtlagkfiafelnnaaDoorOpPut
import Derived.Test.YtlagkfiafelnnaaDoorSame
import Derived.Test.YtlagkfiafelnnaaDoorSameOp
set_option linter.unusedVariables false
set_option linter.unusedSimpArgs false
namespace Go.Proofs.YtlagkfiafelnnaaDoor
open Go.RowKit Go.Proofs.YtlagkfiafelnnaaDoorW.PrintWords

theorem RdsF.nil (W : World) : RdsF W (.slice none 0 0) [] := ⟨RdsN.nil _ _, by simp⟩
theorem RdsP.nil (W : World) : RdsP W (.slice none 0 0) [] := ⟨RdsN.nil _ _, by simp⟩
theorem RdsC.below {W W1 : World} {v : Value} {b : List Int} (h : RdsC W v b) (hb : Below W.heap.size W W1) : RdsC W1 v b := ⟨h.1.below hb, h.2⟩
theorem own_rdsC {W : World} {base : Nat} {e : TypeId} {v : Value} {l : List Int} (h : W.ownsRow base e 1 v l.length (l.map (Value.int .u8))) : RdsC W v l := by
  refine ⟨own_rds h, fun A n c hv => ?_⟩
  rcases h.2 with ⟨rfl, _⟩ | ⟨g, cap, cur, rfl, _, _, _, hcm, _⟩
  · injection hv with _ _ h3; omega
  · injection hv with _ _ h3
    subst h3
    simpa [maxLen] using hcm
theorem RdsC.take {W : World} {A : Option Addr} {c m : Nat} {b : List Int} (h : RdsC W (.slice A b.length c) b) (hm : m ≤ b.length) : RdsC W (.slice A m c) (b.take m) := by
  obtain ⟨⟨A', c', e, h1, h2, h3⟩, hc⟩ := h
  injection e with e1 e2 e3
  subst e1 e3
  have hl : (b.take m).length = m := by rw [List.length_take]; omega
  refine ⟨⟨A, c, by rw [hl], by omega, h2, rfl, by have := h3.2.1; omega, fun hp => ?_⟩, fun A n c' e => ?_⟩
  · obtain ⟨ad, e, h4⟩ := h3.2.2 (by omega)
    exact ⟨ad, e, fun j hj => by
      have := h4 j (by omega)
      rw [this, List.getD_eq_getElem?_getD, List.getD_eq_getElem?_getD, List.getElem?_take_of_lt (by omega)]⟩
  · injection e with _ _ e3
    subst e3
    exact hc _ _ _ rfl
/-- Put of an op without rows, that is right. -/
theorem put_bare (k a n s : Int) (W : World) (B : Nat) (l : List Int) (bB : B ≤ W.heap.size) (hr : right ⟨k, a, n, s, [], []⟩ = true) (hl : bytes ⟨k, a, n, s, [], []⟩ = l) :
    Calls Tryd.prog 12 #[.agg #[.int .u8 k, .int .i64 a, .int .i64 n, .int .i64 s, .slice none 0 0, .slice none 0 0]] W fun e W' => ∃ A c, e = .returned (.tuple #[.slice A l.length c, .int .i64 0]) ∧ RdsC W' (.slice A l.length c) l ∧ Below W.heap.size W W' := by
  refine (put_any ⟨k, a, n, s, [], []⟩ _ _ W (RdsF.nil W) (RdsP.nil W) (by simp) (by simp)).mono ?_
  rintro e w1 ⟨b1, h1, _⟩
  obtain ⟨v, rfl, ho⟩ := h1 hr
  rw [hl] at ho
  obtain ⟨A, c, rfl⟩ := own_slice ho
  exact ⟨A, c, rfl, own_rdsC ho, b1⟩
/-- Get of bytes that are an op's. -/
theorem get_good (v : Value) (b : List Int) (o : OpV) (W : World) (hv : RdsC W v b) (hb : Bs b) (ho : pget b = some o) :
    Calls Tryd.prog 19 #[v] W fun e W' => ∃ AN cN AP cP, e = .returned (.tuple #[opVal o (.slice AN o.news.length cN) (.slice AP o.puts.length cP), .int .i64 0]) ∧ IsOp W' (opVal o (.slice AN o.news.length cN) (.slice AP o.puts.length cP)) o ∧ Below W.heap.size W W' := by
  refine (get_any v b W hv hb).mono ?_
  rintro e w1 ⟨b1, h1, _⟩
  obtain ⟨hw, vN, vP, rfl, oN, oP⟩ := h1 o ho
  have hN := own_rdsF oN hw.2.2.2.2.1
  have hP := own_rdsP oP hw.2.2.2.2.2
  obtain ⟨AN, cN, rfl⟩ := own_slice oN
  obtain ⟨AP, cP, rfl⟩ := own_slice oP
  exact ⟨AN, cN, AP, cP, rfl, ⟨_, _, rfl, hN, hP, hw⟩, b1⟩
theorem get_bad (v : Value) (b : List Int) (W : World) (hv : RdsC W v b) (hb : Bs b) (ho : pget b = none) :
    Calls Tryd.prog 19 #[v] W fun e W' => e = .returned (.tuple #[opVal zeroOp (.slice none 0 0) (.slice none 0 0), .int .i64 4]) ∧ Below W.heap.size W W' := by
  refine (get_any v b W hv hb).mono ?_
  rintro e w1 ⟨b1, _, h1⟩
  exact ⟨h1 ho, b1⟩
theorem own5 (W : World) (l : List Int) (hl : l.length ≤ 100) : Rds (W.alloc (.cells (nums .u8 l).toArray 5)) .u8 (.slice (some ⟨W.heap.size, 0, none⟩) l.length l.length) l := own_rds (own_lit W 0 5 .u8 l (Nat.zero_le _) (by omega))

set_option maxHeartbeats 4000000 in
set_option maxRecDepth 100000 in
theorem awake_any (W : World) : Calls Tryd.prog 8 #[] W fun e W' => e = .returned (.bool true) ∧ Below W.heap.size W W' := by
  obtain ⟨B, hB⟩ : ∃ B, B = W.heap.size := ⟨_, rfl⟩
  rw [← hB]
  have b0 : Below B W W := Below.refl _ _
  have s0 : B ≤ W.heap.size := by omega
  clear hB
  go_enter Tryd.func8, Tryd.ntmps8
  go_wp2_with fail
  refine (put_bare 2 258 3 0 W B [2, 1, 2, 0, 3] s0 (by decide) (by decide)).mono ?_
  rintro e w1 ⟨A1, c1, rfl, r1, q1⟩
  obtain ⟨b1, s1⟩ : Below B W w1 ∧ B ≤ w1.heap.size := ⟨b0.trans (q1.mono s0), Nat.le_trans s0 q1.size⟩
  have R1 := Lib.hid r1
  clear b0 s0 q1 r1
  go_wp2_with fail
  refine (put_bare 4 0 0 5 w1 B [4, 0, 0, 0, 5] s1 (by decide) (by decide)).mono ?_
  rintro e w2 ⟨A2, c2, rfl, r2, q2⟩
  obtain ⟨b2, s2⟩ : Below B W w2 ∧ B ≤ w2.heap.size := ⟨b1.trans (q2.mono s1), Nat.le_trans s1 q2.size⟩
  have R2 := Lib.hid r2
  have R1' := Lib.hid (R1.out.below q2)
  clear b1 s1 q2 r2 R1
  go_wp2_with fail
  refine (put_bare 1 0 0 0 w2 B [1, 0, 0] s2 (by decide) (by decide)).mono ?_
  rintro e w3 ⟨A3, c3, rfl, r3, q3⟩
  obtain ⟨b3, s3⟩ : Below B W w3 ∧ B ≤ w3.heap.size := ⟨b2.trans (q3.mono s2), Nat.le_trans s2 q3.size⟩
  have R3 := Lib.hid r3
  have R2' := Lib.hid (R2.out.below q3)
  have R1 := Lib.hid (R1'.out.below q3)
  clear b2 s2 q3 r3 R1' R2
  go_wp2_with fail
  refine (put_any ⟨0, 0, 0, 0, [], []⟩ _ _ w3 (RdsF.nil _) (RdsP.nil _) (by simp) (by simp)).mono ?_
  rintro e w4 ⟨q4, _, h4⟩
  obtain rfl := h4 (by decide)
  obtain ⟨b4, s4⟩ : Below B W w4 ∧ B ≤ w4.heap.size := ⟨b3.trans (q4.mono s3), Nat.le_trans s3 q4.size⟩
  have R3' := Lib.hid (R3.out.below q4)
  have R2 := Lib.hid (R2'.out.below q4)
  have R1' := Lib.hid (R1.out.below q4)
  clear b3 s3 q4 h4 R1 R2' R3
  go_wp2_with fail
  refine (get_good _ _ ⟨4, 0, 0, 5, [], []⟩ w4 R2.out (by unfold Bs; decide) (by decide)).mono ?_
  rintro e w5 ⟨AN, cN, AP, cP, rfl, hO, q5⟩
  obtain ⟨b5, s5⟩ : Below B W w5 ∧ B ≤ w5.heap.size := ⟨b4.trans (q5.mono s4), Nat.le_trans s4 q5.size⟩
  have R3 := Lib.hid (R3'.out.below q5)
  have R2' := Lib.hid (R2.out.below q5)
  have R1 := Lib.hid (R1'.out.below q5)
  have HO := Lib.hid hO
  clear b4 s4 q5 R1' R2 R3' hO
  unfold opVal
  go_upto_region 6 with (refine wpList_alloc_store rfl rfl 26 rfl 9 rfl (.tmp 36) rfl rfl 6 zero26 _ rfl rfl rfl rfl ?_)
  obtain ⟨g9, hg9⟩ : ∃ g9, g9 = w5.heap.size := ⟨_, rfl⟩
  rw [← hg9]
  generalize hw6 : w5.alloc _ = w6
  have hk : w6.heap[g9]? = some (.cells #[.int .u8 4, .int .i64 0, .int .i64 0, .int .i64 5, .slice AN 0 cN, .slice AP 0 cP] 26 (0, 0)) := by rw [← hw6, hg9]; exact heap_alloc_new w5 _
  have q6 : Below w5.heap.size w5 w6 := by rw [← hw6]; exact (Below.refl _ _).alloc (Nat.le_refl _) _
  obtain ⟨b6, s6⟩ : Below B W w6 ∧ B ≤ w6.heap.size := ⟨b5.trans (q6.mono s5), Nat.le_trans s5 q6.size⟩
  have HO2 := Lib.hid (HO.out.below q6)
  have R3' := Lib.hid (R3.out.below q6)
  have R2 := Lib.hid (R2'.out.below q6)
  have R1' := Lib.hid (R1.out.below q6)
  have RT := Lib.hid (R2.out.take (m := 4) (by decide))
  have hc4 : (4 : Nat) ≤ c2 := by
    obtain ⟨⟨A, c, e, h1, _⟩, _⟩ := R2.out
    injection e with _ _ e3
    subst e3
    exact Nat.le_trans (by decide) h1
  have hc5 : (c2 : Nat) ≤ 9223372036854775807 := R2.out.2 _ _ _ rfl
  have HK := Lib.hid hk
  clear hw6 q6 b5 s5 R1 R2' R3 HO hg9 hk
  go_wp2_with fail
  have hm : (min (4 : Int) 5) = 4 := by decide
  rw [hm]
  rw [show ((4 : Int).toNat) = 4 from rfl]
  clear hm
  refine (get_bad _ _ w6 RT.out (by unfold Bs; decide) (by decide)).mono ?_
  rintro e w7 ⟨rfl, q7⟩
  obtain ⟨b7, s7⟩ : Below B W w7 ∧ B ≤ w7.heap.size := ⟨b6.trans (q7.mono s6), Nat.le_trans s6 q7.size⟩
  have R3 := Lib.hid (R3'.out.below q7)
  have R2' := Lib.hid (R2.out.below q7)
  have R1 := Lib.hid (R1'.out.below q7)
  have HO := Lib.hid (HO2.out.below q7)
  have HK2 : Hid (w7.heap[g9]? = some (.cells #[.int .u8 4, .int .i64 0, .int .i64 0, .int .i64 5, .slice AN 0 cN, .slice AP 0 cP] 26 (0, 0))) := by
    simp only [Hid]
    rw [q7.block g9 (blk_lt HK.out)]
    exact HK.out
  clear b6 s6 q7 R1' R2 R3' HO2 HK RT hc4 hc5
  unfold opVal zeroOp
  go_upto_region 7 with (refine wpList_alloc_store rfl rfl 26 rfl 11 rfl (.tmp 45) rfl rfl 6 zero26 _ rfl rfl rfl rfl ?_)
  generalize hw8 : w7.alloc _ = w8
  have q8 : Below w7.heap.size w7 w8 := by rw [← hw8]; exact (Below.refl _ _).alloc (Nat.le_refl _) _
  obtain ⟨b8, s8⟩ : Below B W w8 ∧ B ≤ w8.heap.size := ⟨b7.trans (q8.mono s7), Nat.le_trans s7 q8.size⟩
  have R3' := Lib.hid (R3.out.below q8)
  have R2 := Lib.hid (R2'.out.below q8)
  have R1' := Lib.hid (R1.out.below q8)
  have HO2 := Lib.hid (HO.out.below q8)
  have HK : Hid (w8.heap[g9]? = some (.cells #[.int .u8 4, .int .i64 0, .int .i64 0, .int .i64 5, .slice AN 0 cN, .slice AP 0 cP] 26 (0, 0))) := by
    simp only [Hid]
    rw [q8.block g9 (blk_lt HK2.out)]
    exact HK2.out
  clear hw8 b7 s7 q8 R1 R2' R3 HO HK2
  have L1 : Rds (w8.alloc (.cells #[.int .u8 2, .int .u8 1, .int .u8 2, .int .u8 0, .int .u8 3] 5)) .u8 (.slice (some ⟨w8.heap.size, 0, none⟩) 5 5) [2, 1, 2, 0, 3] := own5 w8 [2, 1, 2, 0, 3] (by decide)
  go_wp2_with fail
  generalize hw9 : w8.alloc _ = w9 at *
  have q9 : Below w8.heap.size w8 w9 := by rw [← hw9]; exact (Below.refl _ _).alloc (Nat.le_refl _) _
  obtain ⟨b9, s9⟩ : Below B W w9 ∧ B ≤ w9.heap.size := ⟨b8.trans (q9.mono s8), Nat.le_trans s8 q9.size⟩
  refine (same_yes _ _ [2, 1, 2, 0, 3] w9 (R1'.out.below q9).1 L1).mono ?_
  rintro e w10 ⟨rfl, d, hd⟩
  have q10 : Below w8.heap.size w8 w10 := by rw [hd]; exact below_drewN q9 _
  obtain ⟨b10, s10⟩ : Below B W w10 ∧ B ≤ w10.heap.size := ⟨b8.trans (q10.mono s8), Nat.le_trans s8 q10.size⟩
  have R3 := Lib.hid (R3'.out.below q10)
  have R2' := Lib.hid (R2.out.below q10)
  have HO := Lib.hid (HO2.out.below q10)
  have HK2 : Hid (w10.heap[g9]? = some (.cells #[.int .u8 4, .int .i64 0, .int .i64 0, .int .i64 5, .slice AN 0 cN, .slice AP 0 cP] 26 (0, 0))) := by
    simp only [Hid]
    rw [q10.block g9 (blk_lt HK.out)]
    exact HK.out
  clear hw9 q9 b9 s9 L1 hd b8 s8 q10 R1' R2 R3' HO2 HK
  have L1 : Rds (w10.alloc (.cells #[.int .u8 4, .int .u8 0, .int .u8 0, .int .u8 0, .int .u8 5] 5)) .u8 (.slice (some ⟨w10.heap.size, 0, none⟩) 5 5) [4, 0, 0, 0, 5] := own5 w10 [4, 0, 0, 0, 5] (by decide)
  go_wp2_with fail
  generalize hw9 : w10.alloc _ = w11 at *
  have q9 : Below w10.heap.size w10 w11 := by rw [← hw9]; exact (Below.refl _ _).alloc (Nat.le_refl _) _
  refine (same_yes _ _ [4, 0, 0, 0, 5] w11 (R2'.out.below q9).1 L1).mono ?_
  rintro e w12 ⟨rfl, d2, hd⟩
  have q12 : Below w10.heap.size w10 w12 := by rw [hd]; exact below_drewN q9 _
  obtain ⟨b12, s12⟩ : Below B W w12 ∧ B ≤ w12.heap.size := ⟨b10.trans (q12.mono s10), Nat.le_trans s10 q12.size⟩
  have R3' := Lib.hid (R3.out.below q12)
  have HO2 := Lib.hid (HO.out.below q12)
  have HK : Hid (w12.heap[g9]? = some (.cells #[.int .u8 4, .int .i64 0, .int .i64 0, .int .i64 5, .slice AN 0 cN, .slice AP 0 cP] 26 (0, 0))) := by
    simp only [Hid]
    rw [q12.block g9 (blk_lt HK2.out)]
    exact HK2.out
  clear hw9 q9 L1 hd b10 s10 q12 R2' R3 HO HK2
  have L1 : Rds (w12.alloc (.cells #[.int .u8 1, .int .u8 0, .int .u8 0] 5)) .u8 (.slice (some ⟨w12.heap.size, 0, none⟩) 3 3) [1, 0, 0] := own5 w12 [1, 0, 0] (by decide)
  go_wp2_with fail
  generalize hw9 : w12.alloc _ = w13 at *
  have q9 : Below w12.heap.size w12 w13 := by rw [← hw9]; exact (Below.refl _ _).alloc (Nat.le_refl _) _
  refine (same_yes _ _ [1, 0, 0] w13 (R3'.out.below q9).1 L1).mono ?_
  rintro e w14 ⟨rfl, d3, hd⟩
  have q14 : Below w12.heap.size w12 w14 := by rw [hd]; exact below_drewN q9 _
  obtain ⟨b14, s14⟩ : Below B W w14 ∧ B ≤ w14.heap.size := ⟨b12.trans (q14.mono s12), Nat.le_trans s12 q14.size⟩
  have HO := Lib.hid (HO2.out.below q14)
  have hk : w14.heap[g9]? = some (.cells #[.int .u8 4, .int .i64 0, .int .i64 0, .int .i64 5, .slice AN 0 cN, .slice AP 0 cP] 26 (0, 0)) := by
    rw [q14.block g9 (blk_lt HK.out)]
    exact HK.out
  have k3 := blk_cell hk 3
  simp only [List.getElem?_toArray, List.getElem?_cons_zero, List.getElem?_cons_succ] at k3
  clear hw9 q9 L1 hd b12 s12 q14 R3' HO2 HK
  have HK2 := Lib.hid hk
  clear hk
  go_wp2_with (refine wpList_unguard rfl ?_; refine wpList_load_row rfl 26 (.tmp 9) rfl g9 rfl 26 #[.int .u8 4, .int .i64 0, .int .i64 0, .int .i64 5, .slice AN 0 cN, .slice AP 0 cP] (0, 0) _ HK2.out Tryd.underlying26 rfl size26 ?_)
  obtain ⟨vN, vP, e1, hN, hP, _⟩ := HO.out
  simp only [opVal, Value.agg.injEq, Array.mk.injEq, List.cons.injEq, true_and, and_true, List.length_nil] at e1
  obtain ⟨e1, e2⟩ := e1
  rw [← e1] at hN
  rw [← e2] at hP
  refine (right_any ⟨4, 0, 0, 5, [], []⟩ (.slice AN 0 cN) (.slice AP 0 cP) w14 hN hP (by simp) (by simp)).mono ?_
  rintro e w15 ⟨rfl, q15⟩
  rw [show right ⟨4, 0, 0, 5, [], []⟩ = true from by decide]
  have b15 : Below B W w15 := b14.trans (q15.mono s14)
  clear hN hP e1 e2 HO HK2 k3 q15 b14 s14
  go_wp2
  go_ret
  exact ⟨rfl, b15⟩
end Go.Proofs.YtlagkfiafelnnaaDoor
