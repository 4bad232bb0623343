/- The laws LzRuns and LzRows: the walks. -/
import Derived.Test.YtpjjiighojkagaaLzAwake
set_option linter.unusedVariables false
set_option linter.unusedSimpArgs false
namespace Go.Proofs.Ytpjjiighojkagaa
open Go.RowKit Go.Proofs.YtpjjiighojkagaaW.PrintWords

theorem rep_set (c : Int) (N j : Nat) (h : j < N) : (List.replicate j c ++ List.replicate (N - j) (0 : Int)).set j c = List.replicate (j + 1) c ++ List.replicate (N - (j + 1)) 0 := by
  rw [List.set_append_right _ _ (by simp), List.length_replicate, Nat.sub_self, show N - j = (N - (j + 1)) + 1 from by omega, List.replicate_succ, List.set_cons_zero, List.replicate_succ']
  simp

set_option maxHeartbeats 1000000 in
set_option maxRecDepth 100000 in
theorem runs_walk (c n : Int) (W : World) (hc : Byte c) : Calls Try.prog 6 #[.int .u8 c, .int .i64 n] W fun e W' => e = .returned (.bool true) ∧ Below W.heap.size W W' := by
  obtain ⟨B, hB⟩ : ∃ B, B = W.heap.size := ⟨_, rfl⟩
  rw [← hB]
  have HBW := Lib.hid hB
  clear hB
  go_enter Try.func6, Try.ntmps6
  go_wp2_with fail
  refine (awake_any W).mono ?_
  rintro e w1 ⟨rfl, b1⟩
  rw [← HBW.out] at b1
  have s1 : B ≤ w1.heap.size := by rw [HBW.out]; rw [HBW.out] at b1; exact b1.size
  go_wp2_with fail
  refine (pick_any n 65540 w1 (by decide) (by decide)).mono ?_
  rintro e w' ⟨rfl, hw⟩
  subst hw
  obtain ⟨N, hN⟩ : ∃ N : Nat, n % 65540 = (N : Int) := ⟨(n % 65540).toNat, by have := Int.emod_nonneg n (show (65540 : Int) ≠ 0 by decide); omega⟩
  have hN2 : N < 65540 := by have := Int.emod_lt_of_pos n (show (0 : Int) < 65540 by decide); omega
  rw [hN]
  clear hN
  have hmk := print_make (P := Try.prog) 25 5 .u8 1 Try.underlying25 infoByte (by decide) N (by omega)
  have o2 := own_made w1 B 5 .u8 N s1 (by omega)
  go_upto_region 5 with fail
  clear hmk
  obtain ⟨g, hg⟩ : ∃ g, g = w1.heap.size := ⟨_, rfl⟩
  rw [← hg] at o2 ⊢
  generalize hW2 : w1.alloc _ = w2 at *
  obtain ⟨b2, s2⟩ : Below B W w2 ∧ B ≤ w2.heap.size := by rw [← hW2]; exact ⟨b1.alloc s1 _, by simp; omega⟩
  have HO2 := Lib.hid o2
  have hgB : B ≤ g := by omega
  clear hW2 b1 s1 hg o2
  go_wp2_with fail
  go_loopg [6] N (fun gk v6 wr => ∃ j : Nat, Hid (gk + j = N) ∧ v6 = .int .i64 (j : Int) ∧ Hid (wr.ownsRow B 5 1 (.slice (some ⟨g, 0, none⟩) N N) N (nums .u8 (List.replicate j c ++ List.replicate (N - j) 0))) ∧ Below B W wr ∧ B ≤ wr.heap.size)
  case atStart => exact ⟨0, by simp [Hid], rfl, HO2.out, b2, s2⟩
  case round =>
    clear b2 s2 HO2
    obtain ⟨j, HG, rfl, HO, bb, ss⟩ := hrel
    by_cases hlt : j < N
    · have t0 : (j : Int) < (N : Int) := by omega
      have z0 := HO.out.frozenAt j
      obtain ⟨u, hu⟩ : ∃ u, wr.cell? ⟨g, j, none⟩ = some u := by
        rw [HO.out.cellAt j (by omega)]
        exact ⟨_, List.getElem?_eq_getElem (by rw [HO.out.1]; omega)⟩
      obtain ⟨o3, g3⟩ := HO.out.stored j (.int .u8 c)
      have o4 : (wr.setCell ⟨g, j, none⟩ (.int .u8 c)).ownsRow B 5 1 (.slice (some ⟨g, 0, none⟩) N N) N (nums .u8 (List.replicate (j + 1) c ++ List.replicate (N - (j + 1)) 0)) := by
        rw [← rep_set c N j hlt]
        have : (nums .u8 (List.replicate j c ++ List.replicate (N - j) 0)).set j (.int .u8 c) = nums .u8 ((List.replicate j c ++ List.replicate (N - j) 0).set j c) := by simp [nums, List.map_set]
        rw [← this]
        exact o3
      have b3 : Below B W (wr.setCell ⟨g, j, none⟩ (.int .u8 c)) := bb.grown g3 ss (fun k hk => by cases hk; exact hgB)
      have s3 : B ≤ (wr.setCell ⟨g, j, none⟩ (.int .u8 c)).heap.size := Nat.le_trans ss g3.size
      have HO4 := Lib.hid o4
      clear o3 o4 g3
      go_wp2_with fail
      go_roundg (gk - 1)
      case measure => have := HG.out; omega
      case rel => exact ⟨j + 1, by have := HG.out; simp only [Hid]; omega, by go_num, HO4.out, b3, s3⟩
    · have hje : j = N := by have := HG.out; omega
      have t0 : ¬ (j : Int) < (N : Int) := by omega
      have ho : wr.ownsRow B 5 1 (.slice (some ⟨g, 0, none⟩) N N) N (nums .u8 (List.replicate N c)) := by have := HO.out; rw [hje, Nat.sub_self] at this; simpa using this
      have hrl : (List.replicate N c).length = N := by simp
      have hr := own_rds (xs := List.replicate N c) ho
      have HR := Lib.hid hr
      have hby : ∀ x ∈ List.replicate N c, Byte x := fun x hx => by rw [List.eq_of_mem_replicate hx]; exact hc
      clear hje ho hr HO
      by_cases hbig : 65536 < N
      · have t1 : (65536 : Int) < (N : Int) := by omega
        go_wp2_with fail
        refine (parse_long _ _ wr HR.out (by rw [hrl]; exact hbig)).mono ?_
        rintro e w5 ⟨rfl, b5⟩
        go_wp2
        go_ret
        exact ⟨rfl, bb.trans (b5.mono ss)⟩
      · have t1 : ¬ (65536 : Int) < (N : Int) := by omega
        go_wp2_with fail
        refine (parse_any _ _ wr HR.out hby (by rw [hrl]; omega)).mono ?_
        rintro e w5 ⟨v5, out, rfl, HO5, b5, hPS⟩
        have bb5 : Below B W w5 := bb.trans (b5.mono ss)
        have s5 : B ≤ w5.heap.size := Nat.le_trans ss b5.size
        have hsay := hPS.says (base := []) (by rw [hrl]; simp; omega)
        rw [List.take_length, List.nil_append] at hsay
        have hok := hPS.ok hby (by rw [hrl]; omega)
        have r5 := own_rdsQ HO5.out hok rfl
        obtain ⟨A5, c5, rfl⟩ := own_slice HO5.out
        have hrb := HR.out.below b5
        have HRB := Lib.hid hrb
        have hfew := hPS.few
        rw [hrl, if_neg (by omega), Nat.sub_self] at hfew
        have t2 : decide ((out.length : Int) ≤ (N : Int) / 258 + 4) = true := decide_eq_true (by omega)
        clear hfew hok hrb HO5 hPS b5 bb ss
        go_wp2_with fail
        refine (expand_any _ out w5 r5).mono ?_
        rw [hsay]
        rintro e w6 ⟨v6, rfl, ho6, b6⟩
        have bb6 : Below B W w6 := bb5.trans (b6.mono s5)
        have o6 : w6.ownsRow w5.heap.size 5 1 v6 N (nums .u8 (List.replicate N c)) := by simpa [nums] using ho6
        have r6 := own_rds (xs := List.replicate N c) o6
        have hrb := HRB.out.below b6
        obtain ⟨A6, c6, rfl⟩ := own_slice o6
        simp only [Option.isSome_some]
        have HR6 := Lib.hid r6
        have HRB6 := Lib.hid hrb
        clear ho6 o6 b6 r6 hrb r5 hsay bb5 s5
        go_wp2_with fail
        refine (same_yes _ _ _ w6 HRB6.out HR6.out).mono ?_
        rintro e w7 ⟨rfl, d, rfl⟩
        go_wp2
        go_ret
        exact ⟨rfl, pw_below_drewN bb6 d⟩

theorem expFold_two {xs ys : List Int} {oa ob : List Pie} (ha : PS xs oa xs.length) (hb : PS ys ob ys.length) (h : xs.length + ys.length ≤ 65536) : expFold [] (oa ++ ob) = some (xs ++ ys) := by
  have h1 := ha.says (base := []) (by simp; omega)
  rw [List.take_length, List.nil_append] at h1
  have h2 := hb.says (base := xs) h
  rw [List.take_length] at h2
  rw [expFold_append, h1]
  exact h2
theorem cellsQ_one (ps : List Pie) : ∀ u ∈ cellsQ ps, u.oneCell' = true := by
  intro u hu
  simp only [cellsQ, List.mem_flatMap] at hu
  obtain ⟨p, _, hp⟩ := hu
  simp at hp
  rcases hp with rfl | rfl | rfl <;> rfl

set_option maxHeartbeats 1000000 in
set_option maxRecDepth 100000 in
theorem rows_walk (v v' : Value) (xs ys : List Int) (W : World) (ha : Rds W .u8 v xs) (hb : Rds W .u8 v' ys) (hx : ∀ x ∈ xs, Byte x) (hy : ∀ x ∈ ys, Byte x) :
    Calls Try.prog 7 #[v, v'] W fun e W' => e = .returned (.bool true) ∧ Below W.heap.size W W' := by
  obtain ⟨B, hB⟩ : ∃ B, B = W.heap.size := ⟨_, rfl⟩
  rw [← hB]
  have HBW := Lib.hid hB
  have HA := Lib.hid ha
  have HB := Lib.hid hb
  have ml : xs.length ≤ 9223372036854775807 := by obtain ⟨A, c, rfl, hc, h0, hr⟩ := ha; exact hr.2.1
  have ml' : ys.length ≤ 9223372036854775807 := by obtain ⟨A, c, rfl, hc, h0, hr⟩ := hb; exact hr.2.1
  obtain ⟨A1, c1, rfl, _⟩ := ha
  obtain ⟨A2, c2, rfl, _⟩ := hb
  clear hB
  go_enter Try.func7, Try.ntmps7
  go_wp2_with fail
  refine (awake_any W).mono ?_
  rintro e w1 ⟨rfl, b1⟩
  have HA1 := Lib.hid (HA.out.below b1)
  have HB1 := Lib.hid (HB.out.below b1)
  rw [← HBW.out] at b1
  have s1 : B ≤ w1.heap.size := by rw [HBW.out]; rw [HBW.out] at b1; exact b1.size
  by_cases hl1 : xs.length ≤ 6000
  · have t1 : decide ((6000 : Int) < (xs.length : Int)) = false := decide_eq_false (by omega)
    by_cases hl2 : ys.length ≤ 6000
    · have t2 : decide ((6000 : Int) < (ys.length : Int)) = false := decide_eq_false (by omega)
      go_wp2_with fail
      refine (parse_any _ xs w1 HA1.out hx (by omega)).mono ?_
      rintro e w2 ⟨v2, oa, rfl, HO2, b2, hPA⟩
      have HB2 := Lib.hid (HB1.out.below b2)
      have HA2 := Lib.hid (HA1.out.below b2)
      have bb2 : Below B W w2 := b1.trans (b2.mono s1)
      have s2 : w1.heap.size ≤ w2.heap.size := b2.size
      have q2 := b2
      clear b1 b2
      go_wp2_with fail
      refine (parse_any _ ys w2 HB2.out hy (by omega)).mono ?_
      rintro e w3 ⟨v3, ob, rfl, HO3, b3, hPB⟩
      have HB3 := Lib.hid (HB2.out.below b3)
      have HA3 := Lib.hid (HA2.out.below b3)
      have o3 := pw_own_below HO2.out b3
      have bb3 : Below B W w3 := bb2.trans (b3.mono (by omega))
      have s3 : w2.heap.size ≤ w3.heap.size := b3.size
      have q3 : Below w1.heap.size w1 w3 := q2.trans (b3.mono s2)
      have la := hPA.le
      have lb := hPB.le
      have hoka := hPA.ok hx (by omega)
      have hokb := hPB.ok hy (by omega)
      have hsay := expFold_two hPA hPB (by omega)
      have HSAY := Lib.hid hsay
      have HO3' := Lib.hid o3
      clear hsay o3 hPA hPB b3 bb2 HO2 q2
      go_wp2_with (at_builtin; refine append_owns w1.heap.size w2.heap.size rfl _ _ 22 35 _ 3 24 rfl Try.underlying22 infoPiece rfl (by decide) (by decide) v2 v3 oa.length ob.length (cellsQ oa) (cellsQ ob) rfl rfl HO3'.out HO3.out (cellsQ_one ob) (by omega) (by omega) ?_)
      intro v4 w4 ho4 hg4
      have f4 : Fr (fun i => v2.ownBlock = some i) w3 w4 := (Fr.refl _ w3).grown hg4 (fun k hk => .inl hk)
      have bb4 : Below B W w4 := Fr.then_below bb3 f4 (by omega) (fun i hi => Nat.le_trans s1 (own_base HO3'.out i hi))
      have s4 : w3.heap.size ≤ w4.heap.size := f4.size
      have r4 : RdsQ w4 v4 (oa ++ ob) := own_rdsQ (B := w1.heap.size) (n := oa.length + ob.length) (by rw [cellsQ_append]; exact ho4) (fun p hp => (List.mem_append.1 hp).elim (hoka p) (hokb p)) (by simp)
      have q4 : Below w1.heap.size w1 w4 := Fr.then_below q3 f4 (by omega) (fun i hi => own_base HO3'.out i hi)
      have HA4 := Lib.hid (HA1.out.below q4)
      have HB4 := Lib.hid (HB1.out.below q4)
      obtain ⟨A4, c4, rfl⟩ := own_slice ho4
      clear hoka hokb ho4 hg4 f4 bb3 q4 q3
      go_wp2_with fail
      refine (expand_any _ _ w4 r4).mono ?_
      rw [HSAY.out]
      rintro e w5 ⟨v5, rfl, ho5, b5⟩
      have o5 : w5.ownsRow w4.heap.size 5 1 v5 (xs ++ ys).length (nums .u8 (xs ++ ys)) := by simpa [nums] using ho5
      have HA5 := Lib.hid (HA4.out.below b5)
      have HB5 := Lib.hid (HB4.out.below b5)
      have bb5 : Below B W w5 := bb4.trans (b5.mono (by omega))
      have s5 : w4.heap.size ≤ w5.heap.size := b5.size
      have hr5 := own_rds (xs := xs ++ ys) o5
      have HR5 := Lib.hid hr5
      simp only [Option.isSome_some]
      clear ho5 o5 b5 hr5 r4 bb4
      go_wp2_with fail
      refine (copyBytes_any _ xs w5 HA5.out (by omega)).mono ?_
      rintro e w6 ⟨v6, rfl, ho6, b6⟩
      have HB6 := Lib.hid (HB5.out.below b6)
      have HR6 := Lib.hid (HR5.out.below b6)
      have bb6 : Below B W w6 := bb5.trans (b6.mono (by omega))
      have s6 : w5.heap.size ≤ w6.heap.size := b6.size
      obtain ⟨A6, c6, e6, _, _, hrr⟩ := HB6.out
      injection e6 with e6a _ e6c
      subst e6a
      subst e6c
      have HRR := Lib.hid hrr
      have HO6 := Lib.hid ho6
      have q6 := b6
      clear hrr ho6 b6
      go_wp2_with (at_builtin; refine wpList_unguard rfl ?_; refine print_append_row (w0 := w5) w5.heap.size rfl _ _ 25 5 .u8 1 rfl Try.underlying25 infoByte (by decide) v6 xs ys _ ys.length _ rfl rfl HO6.out HRR.out q6 s6 (by omega) ?_)
      intro v7 w7 ho7 b7 hg7 _
      have hr7 := own_rds (xs := xs ++ ys) ho7
      have HR7 := Lib.hid hr7
      have HR7' := Lib.hid (HR5.out.below b7)
      have bb7 : Below B W w7 := bb5.trans (b7.mono (by omega))
      clear hr7 ho7 b7 hg7 q6 bb5
      go_wp2_with fail
      refine (same_yes _ _ _ w7 HR7'.out HR7.out).mono ?_
      rintro e w8 ⟨rfl, d, rfl⟩
      go_wp2
      go_ret
      exact ⟨rfl, pw_below_drewN bb7 d⟩
    · have t2 : decide ((6000 : Int) < (ys.length : Int)) = true := decide_eq_true (by omega)
      go_wp2
      go_ret
      exact ⟨rfl, b1⟩
  · have t1 : decide ((6000 : Int) < (xs.length : Int)) = true := decide_eq_true (by omega)
    go_wp2
    go_ret
    exact ⟨rfl, b1⟩

end Go.Proofs.Ytpjjiighojkagaa
