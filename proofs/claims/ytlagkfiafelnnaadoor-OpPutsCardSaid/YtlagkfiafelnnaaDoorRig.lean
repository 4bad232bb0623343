/- op.Right: whether an op is right. -/
import Derived.Test.YtlagkfiafelnnaaDoorWri
set_option linter.unusedVariables false
set_option linter.unusedSimpArgs false
namespace Go.Proofs.YtlagkfiafelnnaaDoor
open Go.RowKit Go.Proofs.YtlagkfiafelnnaaDoorW.PrintWords

def nought (o : OpV) : Bool := decide (o.at_ = 0) && decide (o.n = 0)
theorem right1 {o : OpV} (h : o.kind = 1) : right o = (nought o && decide (o.snap = 0) && writeOk o) := by unfold right; rw [if_pos h]; rfl
theorem right2 {o : OpV} (h : o.kind = 2) : right o = (bare o && decide (o.snap = 0) && within o.at_ 0 4096 && within o.n 0 4096) := by unfold right; rw [if_neg (by omega), if_pos h]
theorem right3 {o : OpV} (h : o.kind = 3 ∨ o.kind = 4 ∨ o.kind = 5) : right o = (bare o && nought o && within o.snap 1 1073741824) := by unfold right; rw [if_neg (by omega), if_neg (by omega), if_pos h]; simp [nought, Bool.and_assoc]
theorem right0 {o : OpV} (h1 : o.kind ≠ 1) (h2 : o.kind ≠ 2) (h3 : ¬ (o.kind = 3 ∨ o.kind = 4 ∨ o.kind = 5)) : right o = false := by unfold right; rw [if_neg h1, if_neg h2, if_neg h3]

set_option maxHeartbeats 2000000 in
set_option maxRecDepth 100000 in
theorem right_any (o : OpV) (vN vP : Value) (W : World) (hN : RdsF W vN o.news) (hP : RdsP W vP o.puts) (hl : o.news.length ≤ 100000) (hl2 : o.puts.length ≤ 100000) :
    Calls Tryd.prog 10 #[opVal o vN vP] W fun e W' => e = .returned (.bool (right o)) ∧ Below W.heap.size W W' := by
  obtain ⟨B, hB⟩ : ∃ B, B = W.heap.size := ⟨_, rfl⟩
  rw [← hB]
  obtain ⟨AN, cN, rfl, n1, n2⟩ := hN.form
  obtain ⟨AP, cP, rfl, p1, p2⟩ := hP.form
  have HN := Lib.hid hN
  have HP := Lib.hid hP
  have HB := Lib.hid hB
  clear hN hP hB
  unfold opVal
  go_enter Tryd.func10, Tryd.ntmps10
  go_upto_region 1 with fail
  generalize hW1 : World.alloc _ _ = W1
  have hb1 : W1.heap[W.heap.size]? = some (.cells #[.int .u8 o.kind, .int .i64 o.at_, .int .i64 o.n, .int .i64 o.snap, .slice AN o.news.length cN, .slice AP o.puts.length cP] 26 (0, 0)) := by
    rw [← hW1]; exact heap_alloc_new W _
  have bel1 : Below B W W1 := by rw [← hW1, HB.out]; exact (Below.refl _ _).alloc (Nat.le_refl _) _
  have bel0 : Below W.heap.size W W1 := by rw [← HB.out]; exact bel1
  have HN1 := Lib.hid (HN.out.below bel0)
  have HP1 := Lib.hid (HP.out.below bel0)
  clear hW1
  have hgO : W.heap.size = B := HB.out.symm
  rw [hgO] at hb1 ⊢
  have hs1 : B ≤ W1.heap.size := by have := blk_lt hb1; omega
  have k0 := blk_cell hb1 0
  have k1 := blk_cell hb1 1
  have k2 := blk_cell hb1 2
  have k3 := blk_cell hb1 3
  have k4 := blk_cell hb1 4
  have k5 := blk_cell hb1 5
  simp only [List.getElem?_toArray, List.getElem?_cons_zero, List.getElem?_cons_succ] at k0 k1 k2 k3 k4 k5
  have HBL := Lib.hid hb1
  have HBEL := Lib.hid bel1
  clear hgO hb1 bel1 bel0 HN HP HB
  go_cut [3] (fun v3 wx => v3 = .bool (nought o) ∧ wx = W1)
  case first =>
    by_cases hA : o.at_ = 0
    · by_cases hC : o.n = 0
      · have d1 : (o.at_ == 0) = true := by simp [hA]
        have d2 : (o.n == 0) = true := by simp [hC]
        go_wp2
        go_meet
        exact ⟨by simp [nought, hA, hC], rfl⟩
      · have d1 : (o.at_ == 0) = true := by simp [hA]
        have d2 : (o.n == 0) = false := by simp [hC]
        go_wp2
        go_meet
        exact ⟨by simp [nought, hA, hC], rfl⟩
    · have d1 : (o.at_ == 0) = false := by simp [hA]
      go_wp2
      go_meet
      exact ⟨by simp [nought, hA], rfl⟩
  case rest =>
    obtain ⟨rfl, rfl⟩ := hcut
    go_upto_region 2 with fail
    go_cut [4] (fun v4 wx => v4 = .bool (bare o) ∧ wx = wc)
    case first =>
      by_cases hA : o.news.length = 0
      · by_cases hC : o.puts.length = 0
        · have d1 : ((o.news.length : Int) == 0) = true := by simp [hA]
          have d2 : ((o.puts.length : Int) == 0) = true := by simp [hC]
          have d3 : bare o = true := by simp [bare, hA, hC]
          clear hA hC
          go_wp2
          go_meet
          exact ⟨by rw [d3], rfl⟩
        · have d1 : ((o.news.length : Int) == 0) = true := by simp [hA]
          have d2 : ((o.puts.length : Int) == 0) = false := beq_eq_false_iff_ne.2 (by omega)
          have d3 : bare o = false := by simp [bare, hA, hC]
          clear hA hC
          go_wp2
          go_meet
          exact ⟨by rw [d3], rfl⟩
      · have d1 : ((o.news.length : Int) == 0) = false := beq_eq_false_iff_ne.2 (by omega)
        have d3 : bare o = false := by simp [bare, hA]
        clear hA
        go_wp2
        go_meet
        exact ⟨by rw [d3], rfl⟩
    case rest =>
      obtain ⟨rfl, rfl⟩ := hcut
      by_cases q1 : o.kind = 1
      · have e1 : (o.kind == 1) = true := by simp [q1]
        have hr := right1 q1
        have HR := Lib.hid hr
        clear hr q1
        cases hn : nought o
        · go_wp2_with fail
          go_ret
          exact ⟨by rw [HR.out, hn]; rfl, HBEL.out⟩
        · by_cases hs : o.snap = 0
          · have d1 : (o.snap == 0) = true := by simp [hs]
            have hw := write_any o (.slice AN o.news.length cN) (.slice AP o.puts.length cP) wc HN1.out HP1.out hl hl2
            unfold opVal at hw
            have HW := Lib.hid hw
            have HS := Lib.hid hs
            clear hw hs
            go_wp2_with (go_at_call 29; refine HW.out.mono ?_; rintro e w' ⟨rfl, hb⟩; have HB2 := Lib.hid hb; clear hb)
            go_ret
            exact ⟨by rw [HR.out, hn, HS.out]; simp, HBEL.out.trans (HB2.out.mono hs1)⟩
          · have d1 : (o.snap == 0) = false := by simp [hs]
            go_wp2_with fail
            go_ret
            exact ⟨by rw [HR.out, hn]; simp [hs], HBEL.out⟩
      · have e1 : (o.kind == 1) = false := by simp [q1]
        by_cases q2 : o.kind = 2
        · have e2 : (o.kind == 2) = true := by simp [q2]
          have hr := right2 q2
          have HR := Lib.hid hr
          clear hr q2 q1
          cases hn : bare o
          · go_wp2_with fail
            go_ret
            exact ⟨by rw [HR.out, hn]; rfl, HBEL.out⟩
          · by_cases hs : o.snap = 0
            · have d1 : (o.snap == 0) = true := by simp [hs]
              have HS := Lib.hid hs
              clear hs
              cases ha : within o.at_ 0 4096
              · go_wp2_with (go_at_call 30; refine (within_any _ _ _ _).mono ?_; rintro e w' ⟨rfl, rfl⟩)
                go_ret
                exact ⟨by rw [HR.out, hn, HS.out, ha]; rfl, HBEL.out⟩
              · go_wp2_with (go_at_call 30; refine (within_any _ _ _ _).mono ?_; rintro e w' ⟨rfl, rfl⟩)
                go_ret
                exact ⟨by rw [HR.out, hn, HS.out, ha]; simp, HBEL.out⟩
            · have d1 : (o.snap == 0) = false := by simp [hs]
              go_wp2_with fail
              go_ret
              exact ⟨by rw [HR.out, hn]; simp [hs], HBEL.out⟩
        · have e2 : (o.kind == 2) = false := by simp [q2]
          by_cases q3 : o.kind = 3 ∨ o.kind = 4 ∨ o.kind = 5
          · have hr := right3 q3
            have HR := Lib.hid hr
            clear hr
            have key : ∀ b3 b4 b5 : Bool, (o.kind == 3) = b3 → (o.kind == 4) = b4 → (o.kind == 5) = b5 → (b3 || b4 || b5) = true := by
              rintro b3 b4 b5 rfl rfl rfl
              rcases q3 with h | h | h <;> simp [h]
            have HQ := Lib.hid q3
            clear q3 q2 q1
            obtain ⟨b3, h3⟩ : ∃ b, (o.kind == 3) = b := ⟨_, rfl⟩
            obtain ⟨b4, h4⟩ : ∃ b, (o.kind == 4) = b := ⟨_, rfl⟩
            obtain ⟨b5, h5⟩ : ∃ b, (o.kind == 5) = b := ⟨_, rfl⟩
            have hk := key _ _ _ h3 h4 h5
            clear key
            cases hn : bare o <;> cases hm : nought o <;> cases b3 <;> cases b4 <;> cases b5
            all_goals first
              | (exfalso; revert hk; decide)
              | (clear hk
                 go_wp2_with (go_at_call 30; refine (within_any _ _ _ _).mono ?_; rintro e w' ⟨rfl, rfl⟩)
                 go_ret
                 exact ⟨by rw [HR.out, hn, hm]; first | rfl | simp, HBEL.out⟩)
          · have hr := right0 q1 q2 q3
            have e3 : (o.kind == 3) = false := by simp; omega
            have e4 : (o.kind == 4) = false := by simp; omega
            have e5 : (o.kind == 5) = false := by simp; omega
            have HR := Lib.hid hr
            clear hr q1 q2 q3
            go_wp2_with fail
            go_ret
            exact ⟨by rw [HR.out]; rfl, HBEL.out⟩
end Go.Proofs.YtlagkfiafelnnaaDoor
