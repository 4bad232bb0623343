/- The document's Right. -/
import Derived.Test.YtlagkfiafelnnaaDoorRefW
import Derived.Test.YtlagkfiafelnnaaDoorRig
set_option linter.unusedVariables false
set_option linter.unusedSimpArgs false
namespace Go.Proofs.YtlagkfiafelnnaaDoor
open Go.RowKit Go.Proofs.YtlagkfiafelnnaaDoorW.PrintWords

theorem size26r : (Tryd.prog.info? 26).map (·.size) = some 6 := by kernel_rfl
set_option maxHeartbeats 4000000 in
set_option maxRecDepth 100000 in
theorem rright_any (o : OpV) (vN vP : Value) (W : World) (hN : RdsF W vN o.news) (hP : RdsP W vP o.puts) :
    Calls Tryd.prog 11 #[opVal o vN vP] W fun e W' => e = .returned (.bool (right o)) ∧ Below W.heap.size W W' := by
  obtain ⟨B, hB⟩ : ∃ B, B = W.heap.size := ⟨_, rfl⟩
  rw [← hB]
  obtain ⟨AN, cN, rfl, n1, n2⟩ := hN.form
  obtain ⟨AP, cP, rfl, p1, p2⟩ := hP.form
  have HN := Lib.hid hN
  have HP := Lib.hid hP
  have HB := Lib.hid hB
  clear hN hP hB
  unfold opVal
  go_enter Tryd.func11, Tryd.ntmps11
  go_upto_region 1 with fail
  generalize hW1 : World.alloc _ _ = W1
  have hb1 : W1.heap[W.heap.size]? = some (.cells #[.int .u8 o.kind, .int .i64 o.at_, .int .i64 o.n, .int .i64 o.snap, .slice AN o.news.length cN, .slice AP o.puts.length cP] 26 (0, 0)) := by
    rw [← hW1]; exact heap_alloc_new W _
  have bel1 : Below B W W1 := by rw [← hW1, HB.out]; exact (Below.refl _ _).alloc (Nat.le_refl _) _
  have bel0 : Below W.heap.size W W1 := by rw [← HB.out]; exact bel1
  have HN1 := Lib.hid (HN.out.below bel0)
  have HP1 := Lib.hid (HP.out.below bel0)
  clear hW1
  have hgO : W.heap.size = B := HB.out.symm
  rw [hgO] at hb1 ⊢
  have hs1 : B ≤ W1.heap.size := by have := blk_lt hb1; omega
  have k0 := blk_cell hb1 0
  have k1 := blk_cell hb1 1
  have k2 := blk_cell hb1 2
  have k3 := blk_cell hb1 3
  have k4 := blk_cell hb1 4
  have k5 := blk_cell hb1 5
  simp only [List.getElem?_toArray, List.getElem?_cons_zero, List.getElem?_cons_succ] at k0 k1 k2 k3 k4 k5
  have HBL := Lib.hid hb1
  have HBEL := Lib.hid bel1
  clear hgO hb1 bel1 bel0 HN HP HB
  go_cut [3] (fun v3 wx => v3 = .bool (bare o) ∧ wx = W1)
  case first =>
    by_cases hA : o.news.length = 0
    · by_cases hC : o.puts.length = 0
      · have d1 : ((o.news.length : Int) == 0) = true := by simp [hA]
        have d2 : ((o.puts.length : Int) == 0) = true := by simp [hC]
        have d3 : bare o = true := by simp [bare, hA, hC]
        clear hA hC
        go_wp2
        go_meet
        exact ⟨by rw [d3], rfl⟩
      · have d1 : ((o.news.length : Int) == 0) = true := by simp [hA]
        have d2 : ((o.puts.length : Int) == 0) = false := beq_eq_false_iff_ne.2 (by omega)
        have d3 : bare o = false := by simp [bare, hA, hC]
        clear hA hC
        go_wp2
        go_meet
        exact ⟨by rw [d3], rfl⟩
    · have d1 : ((o.news.length : Int) == 0) = false := beq_eq_false_iff_ne.2 (by omega)
      have d3 : bare o = false := by simp [bare, hA]
      clear hA
      go_wp2
      go_meet
      exact ⟨by rw [d3], rfl⟩
  case rest =>
    obtain ⟨rfl, hwc⟩ := hcut
    subst hwc
    by_cases q1 : o.kind = 1
    · have e1 : (o.kind == 1) = true := by simp [q1]
      have hr := right1 q1
      have HR := Lib.hid hr
      clear hr q1
      by_cases hA : o.at_ = 0
      · have dhA : (o.at_ == 0) = true := by simp [hA]
        by_cases hC : o.n = 0
        · have dhC : (o.n == 0) = true := by simp [hC]
          by_cases hD : o.snap = 0
          · have dhD : (o.snap == 0) = true := by simp [hD]
            have hv : right o = writeOk o := by rw [HR.out]; simp [hA, hC, hD, nought]
            have HV := Lib.hid hv
            clear hv hA hC hD
            have hw := rwrite_any o (.slice AN o.news.length cN) (.slice AP o.puts.length cP) wc HN1.out HP1.out
            unfold opVal at hw
            have HW := Lib.hid hw
            clear hw
            go_wp2_with (first | (refine wpList_unguard rfl ?_; refine wpList_load_row rfl 26 (.tmp 1) rfl B rfl 26 #[.int .u8 o.kind, .int .i64 o.at_, .int .i64 o.n, .int .i64 o.snap, .slice AN o.news.length cN, .slice AP o.puts.length cP] (0, 0) _ HBL.out Tryd.underlying26 rfl size26r ?_) | (go_at_call 31; refine HW.out.mono ?_; rintro e w' ⟨rfl, hb⟩; have HB2 := Lib.hid hb; clear hb))
            go_ret
            exact ⟨by rw [HV.out]; rfl, HBEL.out.trans (HB2.out.mono hs1)⟩
          · have dhD : (o.snap == 0) = false := by simp [hD]
            have hv : right o = false := by rw [HR.out, Bool.eq_false_iff]; intro hh; simp only [Bool.and_eq_true, decide_eq_true_eq, within, nought] at hh; omega
            have HV := Lib.hid hv
            clear hv hA hC hD
            go_wp2_with fail
            go_ret
            exact ⟨by rw [HV.out]; rfl, HBEL.out⟩
        · have dhC : (o.n == 0) = false := by simp [hC]
          have hv : right o = false := by rw [HR.out, Bool.eq_false_iff]; intro hh; simp only [Bool.and_eq_true, decide_eq_true_eq, within, nought] at hh; omega
          have HV := Lib.hid hv
          clear hv hA hC
          go_wp2_with fail
          go_ret
          exact ⟨by rw [HV.out]; rfl, HBEL.out⟩
      · have dhA : (o.at_ == 0) = false := by simp [hA]
        have hv : right o = false := by rw [HR.out, Bool.eq_false_iff]; intro hh; simp only [Bool.and_eq_true, decide_eq_true_eq, within, nought] at hh; omega
        have HV := Lib.hid hv
        clear hv hA
        go_wp2_with fail
        go_ret
        exact ⟨by rw [HV.out]; rfl, HBEL.out⟩
    · have e1 : (o.kind == 1) = false := by simp [q1]
      by_cases q2 : o.kind = 2
      · have e2 : (o.kind == 2) = true := by simp [q2]
        have hr := right2 q2
        have HR := Lib.hid hr
        clear hr q2 q1
        cases hn : bare o with
        | false =>
          have hv : right o = false := by rw [HR.out, hn]; simp
          have HV := Lib.hid hv
          clear hv
          go_wp2_with fail
          go_ret
          exact ⟨by rw [HV.out]; rfl, HBEL.out⟩
        | true =>
          by_cases hD : o.snap = 0
          · have dhD : (o.snap == 0) = true := by simp [hD]
            by_cases h1 : 0 ≤ o.at_
            · have dh1 : decide (0 ≤ o.at_) = true := decide_eq_true h1
              by_cases h2 : o.at_ ≤ 4096
              · have dh2 : decide (o.at_ ≤ 4096) = true := decide_eq_true h2
                by_cases h3 : 0 ≤ o.n
                · have dh3 : decide (0 ≤ o.n) = true := decide_eq_true h3
                  by_cases h4 : o.n ≤ 4096
                  · have dh4 : decide (o.n ≤ 4096) = true := decide_eq_true h4
                    have hv : right o = true := by rw [HR.out]; simp only [hn, Bool.true_and, Bool.and_eq_true, decide_eq_true_eq, within]; omega
                    have HV := Lib.hid hv
                    clear hv hD h1 h2 h3 h4
                    go_wp2_with fail
                    go_ret
                    exact ⟨by rw [HV.out]; rfl, HBEL.out⟩
                  · have dh4 : decide (o.n ≤ 4096) = false := decide_eq_false h4
                    have hv : right o = false := by rw [HR.out, Bool.eq_false_iff]; intro hh; simp only [Bool.and_eq_true, decide_eq_true_eq, within, nought] at hh; omega
                    have HV := Lib.hid hv
                    clear hv hD h1 h2 h3 h4
                    go_wp2_with fail
                    go_ret
                    exact ⟨by rw [HV.out]; rfl, HBEL.out⟩
                · have dh3 : decide (0 ≤ o.n) = false := decide_eq_false h3
                  have hv : right o = false := by rw [HR.out, Bool.eq_false_iff]; intro hh; simp only [Bool.and_eq_true, decide_eq_true_eq, within, nought] at hh; omega
                  have HV := Lib.hid hv
                  clear hv hD h1 h2 h3
                  go_wp2_with fail
                  go_ret
                  exact ⟨by rw [HV.out]; rfl, HBEL.out⟩
              · have dh2 : decide (o.at_ ≤ 4096) = false := decide_eq_false h2
                have hv : right o = false := by rw [HR.out, Bool.eq_false_iff]; intro hh; simp only [Bool.and_eq_true, decide_eq_true_eq, within, nought] at hh; omega
                have HV := Lib.hid hv
                clear hv hD h1 h2
                go_wp2_with fail
                go_ret
                exact ⟨by rw [HV.out]; rfl, HBEL.out⟩
            · have dh1 : decide (0 ≤ o.at_) = false := decide_eq_false h1
              have hv : right o = false := by rw [HR.out, Bool.eq_false_iff]; intro hh; simp only [Bool.and_eq_true, decide_eq_true_eq, within, nought] at hh; omega
              have HV := Lib.hid hv
              clear hv hD h1
              go_wp2_with fail
              go_ret
              exact ⟨by rw [HV.out]; rfl, HBEL.out⟩
          · have dhD : (o.snap == 0) = false := by simp [hD]
            have hv : right o = false := by rw [HR.out, Bool.eq_false_iff]; intro hh; simp only [Bool.and_eq_true, decide_eq_true_eq, within, nought] at hh; omega
            have HV := Lib.hid hv
            clear hv hD
            go_wp2_with fail
            go_ret
            exact ⟨by rw [HV.out]; rfl, HBEL.out⟩
      · have e2 : (o.kind == 2) = false := by simp [q2]
        by_cases q3 : o.kind = 3 ∨ o.kind = 4 ∨ o.kind = 5
        · have hr := right3 q3
          have HR := Lib.hid hr
          clear hr
          have key : ∀ b3 b4 b5 : Bool, (o.kind == 3) = b3 → (o.kind == 4) = b4 → (o.kind == 5) = b5 → (b3 || b4 || b5) = true := by
            rintro b3 b4 b5 rfl rfl rfl
            rcases q3 with h | h | h <;> simp [h]
          clear q3 q2 q1
          obtain ⟨b3, h3⟩ : ∃ b, (o.kind == 3) = b := ⟨_, rfl⟩
          obtain ⟨b4, h4⟩ : ∃ b, (o.kind == 4) = b := ⟨_, rfl⟩
          obtain ⟨b5, h5⟩ : ∃ b, (o.kind == 5) = b := ⟨_, rfl⟩
          have hk := key _ _ _ h3 h4 h5
          clear key
          cases b3 <;> cases b4 <;> cases b5
          all_goals first
            | (exfalso; revert hk; decide)
            | (clear hk
               cases hn : bare o with
               | false =>
                have hv : right o = false := by rw [HR.out, hn]; simp
                have HV := Lib.hid hv
                clear hv
                go_wp2_with fail
                go_ret
                exact ⟨by rw [HV.out]; rfl, HBEL.out⟩
               | true =>
                by_cases hA : o.at_ = 0
                · have dhA : (o.at_ == 0) = true := by simp [hA]
                  by_cases hC : o.n = 0
                  · have dhC : (o.n == 0) = true := by simp [hC]
                    by_cases h1 : 1 ≤ o.snap
                    · have dh1 : decide (1 ≤ o.snap) = true := decide_eq_true h1
                      by_cases h2 : o.snap ≤ 1073741824
                      · have dh2 : decide (o.snap ≤ 1073741824) = true := decide_eq_true h2
                        have hv : right o = true := by rw [HR.out]; simp only [hn, Bool.true_and, Bool.and_eq_true, decide_eq_true_eq, within, nought]; omega
                        have HV := Lib.hid hv
                        clear hv hA hC h1 h2
                        go_wp2_with fail
                        go_ret
                        exact ⟨by rw [HV.out]; rfl, HBEL.out⟩
                      · have dh2 : decide (o.snap ≤ 1073741824) = false := decide_eq_false h2
                        have hv : right o = false := by rw [HR.out, Bool.eq_false_iff]; intro hh; simp only [Bool.and_eq_true, decide_eq_true_eq, within, nought] at hh; omega
                        have HV := Lib.hid hv
                        clear hv hA hC h1 h2
                        go_wp2_with fail
                        go_ret
                        exact ⟨by rw [HV.out]; rfl, HBEL.out⟩
                    · have dh1 : decide (1 ≤ o.snap) = false := decide_eq_false h1
                      have hv : right o = false := by rw [HR.out, Bool.eq_false_iff]; intro hh; simp only [Bool.and_eq_true, decide_eq_true_eq, within, nought] at hh; omega
                      have HV := Lib.hid hv
                      clear hv hA hC h1
                      go_wp2_with fail
                      go_ret
                      exact ⟨by rw [HV.out]; rfl, HBEL.out⟩
                  · have dhC : (o.n == 0) = false := by simp [hC]
                    have hv : right o = false := by rw [HR.out, Bool.eq_false_iff]; intro hh; simp only [Bool.and_eq_true, decide_eq_true_eq, within, nought] at hh; omega
                    have HV := Lib.hid hv
                    clear hv hA hC
                    go_wp2_with fail
                    go_ret
                    exact ⟨by rw [HV.out]; rfl, HBEL.out⟩
                · have dhA : (o.at_ == 0) = false := by simp [hA]
                  have hv : right o = false := by rw [HR.out, Bool.eq_false_iff]; intro hh; simp only [Bool.and_eq_true, decide_eq_true_eq, within, nought] at hh; omega
                  have HV := Lib.hid hv
                  clear hv hA
                  go_wp2_with fail
                  go_ret
                  exact ⟨by rw [HV.out]; rfl, HBEL.out⟩)
        · have hr := right0 q1 q2 q3
          have e3 : (o.kind == 3) = false := by simp; omega
          have e4 : (o.kind == 4) = false := by simp; omega
          have e5 : (o.kind == 5) = false := by simp; omega
          have HR := Lib.hid hr
          clear hr q1 q2 q3
          go_wp2_with fail
          go_ret
          exact ⟨by rw [HR.out]; rfl, HBEL.out⟩
end Go.Proofs.YtlagkfiafelnnaaDoor
