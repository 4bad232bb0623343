/- OpWhole: whatever the bytes, true. -/
import Derived.Test.YtlagkfiafelnnaaDoorAwake
import Derived.Test.YtlagkfiafelnnaaDoorRow
set_option linter.unusedVariables false
set_option linter.unusedSimpArgs false
namespace Go.Proofs.YtlagkfiafelnnaaDoor
open Go.RowKit Go.Proofs.YtlagkfiafelnnaaDoorW.PrintWords

theorem right_few {o : OpV} (h : right o = true) : o.news.length ≤ 18 ∧ o.puts.length ≤ 18 := by
  unfold right at h
  split at h
  · simp only [Bool.and_eq_true, decide_eq_true_eq, writeOk] at h
    exact ⟨h.2.1.2, h.2.2⟩
  · split at h
    · simp only [Bool.and_eq_true, decide_eq_true_eq, bare] at h
      omega
    · split at h
      · simp only [Bool.and_eq_true, decide_eq_true_eq, bare] at h
        omega
      · cases h
theorem zeroOp_wf : zeroOp.wf := ⟨⟨by decide, by decide⟩, ⟨by decide, by decide⟩, ⟨by decide, by decide⟩, ⟨by decide, by decide⟩, by simp [zeroOp], by simp [zeroOp]⟩
theorem zero_isOp (W : World) : IsOp W (opVal zeroOp (.slice none 0 0) (.slice none 0 0)) zeroOp := ⟨_, _, rfl, RdsF.nil W, RdsP.nil W, zeroOp_wf⟩

set_option maxHeartbeats 2000000 in
set_option maxRecDepth 100000 in
theorem whole_any (v : Value) (b : List Int) (W : World) (hv : RdsC W v b) (hb : Bs b) : Calls Tryd.prog 6 #[v] W fun e W' => e = .returned (.bool true) ∧ Below W.heap.size W W' := by
  obtain ⟨B, hB⟩ : ∃ B, B = W.heap.size := ⟨_, rfl⟩
  rw [← hB]
  have b0 : Below B W W := Below.refl _ _
  have s0 : B ≤ W.heap.size := by omega
  clear hB
  obtain ⟨⟨A, c, rfl, hbc, _, hr⟩, hcb⟩ := id hv
  have hc := hcb _ _ _ rfl
  have HV := Lib.hid hv
  have HBS := Lib.hid hb
  clear hv hb hr hcb
  go_enter Tryd.func6, Tryd.ntmps6
  go_wp2_with fail
  refine (awake_any W).mono ?_
  rintro e w1 ⟨rfl, q1⟩
  obtain ⟨b1, s1⟩ : Below B W w1 ∧ B ≤ w1.heap.size := ⟨b0.trans (q1.mono s0), Nat.le_trans s0 q1.size⟩
  have HV1 := Lib.hid (HV.out.below q1)
  clear b0 s0 q1 HV
  by_cases hlong : 5000 < b.length
  · have hl : decide ((5000 : Int) < (b.length : Int)) = true := decide_eq_true (by omega)
    go_wp2
    go_ret
    exact ⟨rfl, b1⟩
  have hl : decide ((5000 : Int) < (b.length : Int)) = false := decide_eq_false (by omega)
  cases hp : pget b with
  | none =>
    go_wp2_with fail
    refine (get_bad _ _ w1 HV1.out HBS.out hp).mono ?_
    rintro e w2 ⟨rfl, q2⟩
    obtain ⟨b2, s2⟩ : Below B W w2 ∧ B ≤ w2.heap.size := ⟨b1.trans (q2.mono s1), Nat.le_trans s1 q2.size⟩
    clear b1 s1 q2 HV1
    unfold opVal zeroOp
    go_upto_region 6 with (refine wpList_alloc_store rfl rfl 26 rfl 3 rfl (.tmp 15) rfl rfl 6 zero26 _ rfl rfl rfl rfl ?_)
    obtain ⟨g3, hg3⟩ : ∃ g, g = w2.heap.size := ⟨_, rfl⟩
    rw [← hg3]
    generalize hw3 : w2.alloc _ = w3
    have hk : w3.heap[g3]? = some (.cells #[.int .u8 0, .int .i64 0, .int .i64 0, .int .i64 0, .slice none 0 0, .slice none 0 0] 26 (0, 0)) := by rw [← hw3, hg3]; exact heap_alloc_new w2 _
    have q3 : Below w2.heap.size w2 w3 := by rw [← hw3]; exact (Below.refl _ _).alloc (Nat.le_refl _) _
    obtain ⟨b3, s3⟩ : Below B W w3 ∧ B ≤ w3.heap.size := ⟨b2.trans (q3.mono s2), Nat.le_trans s2 q3.size⟩
    have HK := Lib.hid hk
    clear hw3 q3 b2 s2 hg3 hk
    go_wp2_with (refine wpList_unguard rfl ?_; refine wpList_load_row rfl 26 (.tmp 3) rfl g3 rfl 26 #[.int .u8 0, .int .i64 0, .int .i64 0, .int .i64 0, .slice none 0 0, .slice none 0 0] (0, 0) _ HK.out Tryd.underlying26 rfl size26 ?_)
    refine (sameOp_yes zeroOp _ _ w3 (zero_isOp w3) (zero_isOp w3)).mono ?_
    rintro e w4 ⟨rfl, q4⟩
    have b4 : Below B W w4 := b3.trans (q4.mono s3)
    clear q4 HK
    go_wp2
    go_ret
    exact ⟨rfl, b4⟩
  | some o =>
    obtain ⟨hbo, hright, hok⟩ := pget_some HBS.out hp
    obtain ⟨f1, f2⟩ := right_few hright
    go_wp2_with fail
    refine (get_good _ _ o w1 HV1.out HBS.out hp).mono ?_
    rintro e w2 ⟨AN, cN, AP, cP, rfl, hO, q2⟩
    obtain ⟨b2, s2⟩ : Below B W w2 ∧ B ≤ w2.heap.size := ⟨b1.trans (q2.mono s1), Nat.le_trans s1 q2.size⟩
    have HV2 := Lib.hid (HV1.out.below q2)
    clear b1 s1 q2 HV1
    unfold opVal
    go_upto_region 6 with (refine wpList_alloc_store rfl rfl 26 rfl 3 rfl (.tmp 15) rfl rfl 6 zero26 _ rfl rfl rfl (opOne o rfl rfl) ?_)
    obtain ⟨g3, hg3⟩ : ∃ g, g = w2.heap.size := ⟨_, rfl⟩
    rw [← hg3]
    generalize hw3 : w2.alloc _ = w3
    have hk : w3.heap[g3]? = some (.cells #[.int .u8 o.kind, .int .i64 o.at_, .int .i64 o.n, .int .i64 o.snap, .slice AN o.news.length cN, .slice AP o.puts.length cP] 26 (0, 0)) := by rw [← hw3, hg3]; exact heap_alloc_new w2 _
    have q3 : Below w2.heap.size w2 w3 := by rw [← hw3]; exact (Below.refl _ _).alloc (Nat.le_refl _) _
    obtain ⟨b3, s3⟩ : Below B W w3 ∧ B ≤ w3.heap.size := ⟨b2.trans (q3.mono s2), Nat.le_trans s2 q3.size⟩
    obtain ⟨vN, vP, e1, hN, hP, _⟩ := hO
    simp only [opVal, Value.agg.injEq, Array.mk.injEq, List.cons.injEq, true_and, and_true] at e1
    obtain ⟨e1, e2⟩ := e1
    rw [← e1] at hN
    rw [← e2] at hP
    have HK := Lib.hid hk
    have HN := Lib.hid (hN.below q3)
    have HP := Lib.hid (hP.below q3)
    have HV3 := Lib.hid (HV2.out.below q3)
    clear hw3 q3 b2 s2 hg3 hk hN hP e1 e2 HV2
    go_wp2_with (refine wpList_load_row rfl 26 (.tmp 3) rfl g3 rfl 26 #[.int .u8 o.kind, .int .i64 o.at_, .int .i64 o.n, .int .i64 o.snap, .slice AN o.news.length cN, .slice AP o.puts.length cP] (0, 0) _ HK.out Tryd.underlying26 rfl size26 ?_)
    refine (put_any o (.slice AN o.news.length cN) (.slice AP o.puts.length cP) w3 HN.out HP.out (by omega) (by omega)).mono ?_
    rintro e w4 ⟨q4, h4, _⟩
    obtain ⟨v4, rfl, ho⟩ := h4 hright
    obtain ⟨b4, s4⟩ : Below B W w4 ∧ B ≤ w4.heap.size := ⟨b3.trans (q4.mono s3), Nat.le_trans s3 q4.size⟩
    rw [hbo] at ho
    obtain ⟨A4, c4, rfl⟩ := own_slice ho
    have R4 := Lib.hid (own_rds ho)
    have HN4 := Lib.hid (HN.out.below q4)
    have HP4 := Lib.hid (HP.out.below q4)
    have HV4 := Lib.hid (HV3.out.below q4)
    have HK4 : Hid (w4.heap[g3]? = some (.cells #[.int .u8 o.kind, .int .i64 o.at_, .int .i64 o.n, .int .i64 o.snap, .slice AN o.news.length cN, .slice AP o.puts.length cP] 26 (0, 0))) := by
      simp only [Hid]
      rw [q4.block g3 (blk_lt HK.out)]
      exact HK.out
    clear b3 s3 q4 h4 ho HN HP HV3 HK
    go_wp2_with (refine wpList_load_row rfl 26 (.tmp 3) rfl g3 rfl 26 #[.int .u8 o.kind, .int .i64 o.at_, .int .i64 o.n, .int .i64 o.snap, .slice AN o.news.length cN, .slice AP o.puts.length cP] (0, 0) _ HK4.out Tryd.underlying26 rfl size26 ?_)
    refine (right_any o (.slice AN o.news.length cN) (.slice AP o.puts.length cP) w4 HN4.out HP4.out (by omega) (by omega)).mono ?_
    rw [hright]
    rintro e w5 ⟨rfl, q5⟩
    obtain ⟨b5, s5⟩ : Below B W w5 ∧ B ≤ w5.heap.size := ⟨b4.trans (q5.mono s4), Nat.le_trans s4 q5.size⟩
    have R5 := Lib.hid (R4.out.below q5)
    have HV5 := Lib.hid (HV4.out.below q5)
    clear b4 s4 q5 R4 HV4 HN4 HP4 HK4
    go_wp2_with fail
    refine (same_yes _ _ b w5 HV5.out.1 R5.out).mono ?_
    rintro e w6 ⟨rfl, d, rfl⟩
    go_wp2
    go_ret
    exact ⟨rfl, below_drewN b5 _⟩
theorem IsRow.rdsC {w : World} {a : Option Addr} {len cap : Nat} {zs : List Int} (h : IsRow .u8 w a len cap zs) : RdsC w (.slice a len cap) (zs.take len) := by
  refine ⟨h.rds.2.1, fun A n c e => ?_⟩
  injection e with _ _ e3
  subst e3
  rcases h with ⟨rfl, rfl, rfl, rfl⟩ | ⟨x, rfl, h1, h2, h3, h4, h5⟩
  · omega
  · simpa [maxLen] using h2
end Go.Proofs.YtlagkfiafelnnaaDoor
