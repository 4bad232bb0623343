/- The law LzExpands: the walk. -/
import Derived.Test.YtpjjiighojkagaaLzAwake
import Derived.Test.YtpjjiighojkagaaRefExp
import Derived.Test.YtpjjiighojkagaaKeptP
import Derived.Test.YtpjjiighojkagaaApartB
set_option linter.unusedVariables false
set_option linter.unusedSimpArgs false
namespace Go.Proofs.Ytpjjiighojkagaa
open Go.RowKit Go.Proofs.YtpjjiighojkagaaW.PrintWords

def two {α : Type} (x y : α) (k : Nat) : α := if k = 0 then x else y
theorem expFold_small (ps : List Pie) : ∀ out, out.length ≤ 65536 → ∀ r, expFold out ps = some r → r.length ≤ 65536 := by
  induction ps with
  | nil => intro out h r hr; simp [expFold] at hr; subst hr; exact h
  | cons p ps ih =>
    intro out h r hr
    simp only [expFold] at hr
    unfold expStep at hr
    split at hr
    · split at hr
      · simp at hr
      · exact ih _ (by omega) r hr
    · simp at hr
theorem flat_two {w : World} {B n1 n2 : Nat} {v1 v2 : Value} {x1 x2 : List Value} (h1 : w.ownsRow B 5 1 v1 n1 x1) (h2 : w.ownsRow B 5 1 v2 n2 x2) (hne : ∀ b, v1.ownBlock = some b → v2.ownBlock ≠ some b) :
    FlatV (fun _ => False) w B 2 (two v1 v2) (two n1 n2) (two x1 x2) := by
  refine ⟨fun k hk => ?_, fun k hk => World.ownsRow_nil _ _ _ _, fun i j b hi hj hij hb hb' => ?_, fun _ _ _ _ h => h, fun _ h => h.elim⟩
  · match k, hk with
    | 0, _ => exact h1
    | 1, _ => exact h2
  · have nb : ∀ b, ¬ (nilS).ownBlock = some b := fun b h => by simp [nilS, Value.ownBlock] at h
    have hc : (i = 0 ∧ j = 1) ∨ (i = 1 ∧ j = 0) := by omega
    rcases hc with ⟨rfl, rfl⟩ | ⟨rfl, rfl⟩
    · exact hb.elim (fun e => hb'.elim (fun e' => hne b e e') (nb b)) (nb b)
    · exact hb.elim (fun e => hb'.elim (fun e' => hne b e' e) (nb b)) (nb b)

set_option maxHeartbeats 1000000 in
set_option maxRecDepth 100000 in
theorem expands_walk (v : Value) (ps : List Pie) (W : World) (h : RdsQ W v ps) : Calls Try.prog 3 #[v] W fun e W' => e = .returned (.bool true) ∧ Below W.heap.size W W' := by
  obtain ⟨B, hB⟩ : ∃ B, B = W.heap.size := ⟨_, rfl⟩
  rw [← hB]
  have HBW := Lib.hid hB
  have HQ := Lib.hid h
  obtain ⟨A, c, rfl, _, _, hc3, hok, _⟩ := h
  have HOK := Lib.hid hok
  clear hB hok
  by_cases hl : ps.length ≤ 3000
  · have t1 : decide ((3000 : Int) < (ps.length : Int)) = false := decide_eq_false (by omega)
    go_enter Try.func3, Try.ntmps3
    go_wp2_with fail
    refine (lentP_any _ ps W HQ.out (by omega)).mono ?_
    rintro e w1 ⟨bi, rfl, hI, b1⟩
    have HQ1 := Lib.hid (HQ.out.below b1)
    have HI1 := Lib.hid hI
    have hr1 := hI.rds HOK.out (by omega)
    rw [← HBW.out] at b1
    have s1 : B ≤ w1.heap.size := by rw [HBW.out]; rw [HBW.out] at b1; exact b1.size
    clear hI
    go_wp2_with fail
    refine (expand_any _ ps w1 hr1).mono ?_
    obtain ⟨R, hR⟩ : ∃ R, R = expFold [] ps := ⟨_, rfl⟩
    rw [← hR]
    have HR := Lib.hid hR
    clear hR
    rintro e w2 ⟨va, rfl, oa, b2⟩
    have bb2 : Below B W w2 := b1.trans (b2.mono s1)
    have s2 : w1.heap.size ≤ w2.heap.size := b2.size
    have hr2 := hr1.below b2
    have HQ2 := Lib.hid (HQ1.out.below b2)
    have HI2 := Lib.hid (HI1.out.fr (Fr.of_below b2 (fun _ => False)) (fun h => h))
    clear b1 b2 hr1
    go_wp2_with fail
    refine (expand_any _ ps w2 hr2).mono ?_
    rw [← HR.out]
    rintro e w3 ⟨vb, rfl, ob, b3⟩
    have bb3 : Below B W w3 := bb2.trans (b3.mono (by omega))
    have s3 : w2.heap.size ≤ w3.heap.size := b3.size
    have HQ3 := Lib.hid (HQ2.out.below b3)
    have HI3 := Lib.hid (HI2.out.fr (Fr.of_below b3 (fun _ => False)) (fun h => h))
    have oa3 := pw_own_below oa b3
    have hne : ∀ b, va.ownBlock = some b → vb.ownBlock ≠ some b := fun b hb hb' => by have := own_lt oa b hb; have := own_base ob b hb'; omega
    clear bb2 b3 hr2
    go_wp2_with fail
    refine (refExpand_any _ ps w3 HQ3.out).mono ?_
    rw [← HR.out]
    rintro e w4 ⟨vc, rfl, oc, b4⟩
    have bb4 : Below B W w4 := bb3.trans (b4.mono (by omega))
    have s4 : w3.heap.size ≤ w4.heap.size := b4.size
    have HQ4 := Lib.hid (HQ3.out.below b4)
    have HI4 := Lib.hid (HI3.out.fr (Fr.of_below b4 (fun _ => False)) (fun h => h))
    have oa4 := pw_own_below oa3 b4
    have ob4 := pw_own_below ob b4
    have hsm : (R.getD []).length ≤ 65536 := by
      cases hr : R with
      | none => simp
      | some r => exact expFold_small ps [] (by simp) r (by rw [← HR.out, hr])
    generalize R.getD [] = xs at *
    have ra := Lib.hid (own_rds (xs := xs) oa4)
    have rc := Lib.hid (own_rds (xs := xs) oc)
    obtain ⟨Aa, ca, rfl⟩ := own_slice oa4
    obtain ⟨Ab, cb', rfl⟩ := own_slice ob4
    have HOA := Lib.hid oa4
    have HOB := Lib.hid ob4
    have d0 : (R.isSome == R.isSome) = true := by simp
    clear oa oa3 ob oa4 ob4 oc b4 bb3
    go_wp2_with fail
    refine (same_yes _ _ xs w4 ra.out rc.out).mono ?_
    rintro e w5 ⟨rfl, d, hw5⟩
    have bb5 : Below B W w5 := by rw [hw5]; exact pw_below_drewN bb4 d
    have s5 : w4.heap.size ≤ w5.heap.size := by rw [hw5]; exact Nat.le_refl _
    have q5 : Below w4.heap.size w4 w5 := by rw [hw5]; exact pw_below_drewN (Below.refl _ _) d
    clear hw5
    have HQ5 := Lib.hid (HQ4.out.below q5)
    have HI5 := HI4.out.fr (Fr.of_below q5 (fun _ => False)) (fun h => h)
    go_wp2_with fail
    refine (keptP_any _ bi _ ps w5 HI5 HQ5.out (by omega)).mono ?_
    rintro e w6 ⟨rfl, b6⟩
    have q6 : Below w4.heap.size w4 w6 := q5.trans (b6.mono s5)
    have bb6 : Below B W w6 := bb5.trans (b6.mono (by omega))
    have s6 : w4.heap.size ≤ w6.heap.size := q6.size
    have oa6 := own_less (base := B) (pw_own_below HOA.out q6) s1
    have ob6 := own_less (base := B) (pw_own_below HOB.out q6) (by omega)
    have hfl := flat_two oa6 ob6 hne
    have HFL := Lib.hid (hfl.fr ((Fr.refl (fun _ => False) w6).alloc (.cells #[.slice Aa xs.length ca, .slice Ab xs.length cb'] 25)) (fun _ h => h.elim))
    have HAR : Hid (Arr (w6.alloc (.cells #[.slice Aa xs.length ca, .slice Ab xs.length cb'] 25)) 25 w6.heap.size 2 (two (.slice Aa xs.length ca) (.slice Ab xs.length cb'))) := ⟨_, heap_alloc_new w6 _, fun j hj => by
      have hc : j = 0 ∨ j = 1 := by omega
      rcases hc with rfl | rfl <;> rfl⟩
    have hnn : ∀ k, k < 2 → two xs.length xs.length k ≤ 1000000000 := fun k _ => by unfold two; split <;> omega
    have bb7 := bb6.alloc (show B ≤ w6.heap.size by omega) (.cells #[.slice Aa xs.length ca, .slice Ab xs.length cb'] 25)
    clear oa6 ob6 hfl b6 q5 q6 HI5 bb5
    go_wp2_with fail
    refine (apartBytes_any B 2 w6.heap.size 2 _ _ _ _ HAR.out HFL.out (by decide) (by decide) hnn (by simp; omega)).mono ?_
    rintro e w8 ⟨rfl, b8⟩
    have bb8 : Below B W w8 := bb7.trans b8
    have s8 : B ≤ w8.heap.size := Nat.le_trans (by simp; omega) b8.size
    clear b8 bb7
    go_wp2_with fail
    refine (awake_any w8).mono ?_
    rintro e w9 ⟨rfl, b9⟩
    go_wp2
    go_ret
    exact ⟨rfl, bb8.trans (b9.mono s8)⟩
  · have t1 : decide ((3000 : Int) < (ps.length : Int)) = true := decide_eq_true (by omega)
    go_enter Try.func3, Try.ntmps3
    go_wp2_with fail
    refine (awake_any W).mono ?_
    rintro e w1 ⟨rfl, b1⟩
    rw [← HBW.out] at b1
    go_wp2
    go_ret
    exact ⟨rfl, b1⟩

end Go.Proofs.Ytpjjiighojkagaa
