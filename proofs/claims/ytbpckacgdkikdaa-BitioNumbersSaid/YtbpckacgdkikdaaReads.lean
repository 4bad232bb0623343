/- BitioReads: the walk. Whatever is got of any bytes, each answer, the place, and what is left, are what the document tells. -/
import Derived.Test.YtbpckacgdkikdaaAwake
import Derived.Test.YtbpckacgdkikdaaRef
import Derived.Test.YtbpckacgdkikdaaLent
import Derived.Test.YtbpckacgdkikdaaPc
import Derived.Deep.DeepCutAuto
set_option linter.unusedVariables false
set_option linter.unusedSimpArgs false
namespace Go.Proofs.Ytbpckacgdkikdaa
open Go.RowKit Go.Proofs.YtbpckacgdkikdaaW.PrintWords Bits

def ReadsRel (W : World) (B gr gd : Nat) (vr vb : Value) (xs : List Int) (n : Nat) (gk : Nat) (v8 : Value) (wr : World) : Prop :=
  ∃ (i p : Nat), Hid (gk + i = n) ∧ v8 = .int .i64 (i : Int) ∧ IsRd wr B gr vr xs p ∧ IsRf wr gd vb p ∧ Below B W wr ∧ B ≤ wr.heap.size ∧ B ≤ gd

theorem IsRf.fr {S : Nat → Prop} {W W1 : World} {g : Nat} {v : Value} {p : Nat} (h : IsRf W g v p) (hf : Fr S W W1) (hn : ¬ S g) : IsRf W1 g v p := hf.heap h hn
theorem quiet_fr {W W1 : World} (h : ∃ d, W1 = W.drewN d) : Fr (fun _ => False) W W1 := by obtain ⟨d, rfl⟩ := h; exact Fr.drewN (Fr.refl _ _) _

set_option maxHeartbeats 1600000 in
set_option maxRecDepth 100000 in
theorem reads_walk (vb vl : Value) (xs : List Int) (ps : List Pc) (W : World) (hb : Rds W .u8 vb xs) (hl : RdsP W vl ps) (hx : ∀ x ∈ xs, 0 ≤ x ∧ x < 256) :
    Calls Try.prog 5 #[vb, vl] W fun e W' => e = .returned (.bool true) ∧ Below W.heap.size W W' := by
  obtain ⟨B, hB⟩ : ∃ B, B = W.heap.size := ⟨_, rfl⟩
  rw [← hB]
  have HBW := Lib.hid hB
  clear hB
  have HX := Lib.hid hx
  clear hx
  have hbm : xs.length ≤ 9223372036854775807 := by obtain ⟨_, _, _, _, _, h⟩ := hb; exact h.2.1
  have HB0 := Lib.hid hb
  have hl0 := hl
  obtain ⟨Ab, cb, rfl, _⟩ := hb
  obtain ⟨A, c, rfl, hc1, hc2, hc3, hok, _⟩ := hl
  have hcl : ps.length ≤ 9223372036854775807 := by omega
  have HRD := Lib.hid hl0
  clear hl0 hc1 hc2 hc3 hok
  by_cases h5 : (5000 : Int) < xs.length
  · have d1 : decide ((5000 : Int) < xs.length) = true := decide_eq_true h5
    go_enter Try.func5, Try.ntmps5
    go_wp2_with fail
    refine (awake_any _).mono ?_
    rintro e w1 ⟨rfl, b1⟩
    go_wp2
    go_ret
    exact ⟨rfl, by rw [← HBW.out] at b1; exact b1⟩
  have d1 : decide ((5000 : Int) < xs.length) = false := decide_eq_false h5
  have hx5 : xs.length ≤ 5000 := by omega
  clear h5
  go_enter Try.func5, Try.ntmps5
  go_wp2_with fail
  refine (lent_any _ xs W HB0.out (by omega)).mono ?_
  rintro e w1 ⟨bl, rfl, h1, b1⟩
  rw [← HBW.out] at h1 b1
  have s1 : B ≤ w1.heap.size := by have := b1.size; rw [← HBW.out] at this; exact this
  go_wp2_with fail
  refine (newReader_any _ xs w1 (h1.rds (by omega)) (by omega) HX.out).mono ?_
  rintro e w2 ⟨gr, vr, rfl, h2, b2⟩
  have bb2 : Below B W w2 := b1.trans (b2.mono s1)
  have s2 : B ≤ w2.heap.size := Nat.le_trans s1 b2.size
  have hL2 : IsLent w2 B bl xs := pw_own_below h1 b2
  have hr2 := h2.weaken s1
  have hdis : vr.ownBlock ≠ some bl := fun e => by have := own_base h2.2.2.1 _ e; have := h1.lt; omega
  have hdis2 : gr ≠ bl := fun e => by have := h2.2.1; have := h1.lt; omega
  clear h1 b1 b2 h2 s1
  go_wp2_with fail
  generalize hw3 : w2.alloc (.cells #[.slice Ab xs.length cb, .int .i64 0] 52) = w3
  have hd3 : IsRf w3 w2.heap.size (.slice Ab xs.length cb) 0 := by rw [← hw3]; exact heap_alloc_new w2 _
  have f3 : Fr (fun _ => False) w2 w3 := by rw [← hw3]; exact Fr.alloc (Fr.refl _ _) _
  have bb3 : Below B W w3 := Fr.then_below bb2 f3 s2 (fun k hk => hk.elim)
  have s3 : B ≤ w3.heap.size := Nat.le_trans s2 f3.size
  have hL3 := hL2.fr f3 (fun h => h)
  have hr3 := hr2.fr f3 (fun h => h) (fun _ _ h => h)
  have hgd : bl ≠ w2.heap.size := by have := hL2.lt; omega
  have hgr : gr < w2.heap.size := hr2.lt
  clear hw3 f3 bb2 hL2 hr2
  generalize w2.heap.size = gd at *
  refine (kept_any B bl _ xs w3 hL3 (HB0.out.below (by rw [← HBW.out]; exact bb3)) (by omega)).mono ?_
  rintro e w4 ⟨rfl, hd4⟩
  have f4 := quiet_fr hd4
  clear hd4
  have hd4 := hd3.fr f4 (fun h => h)
  have hL4 := hL3.fr f4 (fun h => h)
  have hr4 := hr3.fr f4 (fun h => h) (fun _ _ h => h)
  have bb4 : Below B W w4 := Fr.then_below bb3 f4 s3 (fun k hk => hk.elim)
  have s4 : B ≤ w4.heap.size := Nat.le_trans s3 f4.size
  clear hd3 hL3 hr3 bb3 s3 f4
  go_wp2_with fail
  refine (over_any B bl xs w4 hL4 (by omega)).mono ?_
  rintro e w5 ⟨rfl, f5⟩
  have hd5 := hd4.fr f5 (fun h => hgd h.symm)
  have hr5 := hr4.fr f5 hdis2 (fun k hk hs => hdis (by rw [hk, hs]))
  obtain ⟨bb5, s5⟩ := f5.one bb4 s4 hL4.ge
  clear hd4 hr4 hL4 f5 bb4 s4
  go_wp2_with fail
  go_loopg [8] ps.length (fun gk v8 wr => ReadsRel W B gr gd vr (.slice Ab xs.length cb) xs ps.length gk v8 wr)
  case atStart => exact ⟨0, 0, by simp [Hid], rfl, hr5, hd5, bb5, s5, s2⟩
  case round =>
    clear hd5 hr5 bb5 s5 hdis hdis2 hgd hgr s2
    obtain ⟨i, p, HG, rfl, hr, hd, bb, ss, hgd⟩ := hrel
    have hpl := hr.2.2.2.2.1
    have hne : gr ≠ gd := blk_ne hr.1 hd (by decide)
    have hnv : vr.ownBlock ≠ some gd := fun e => by
      obtain ⟨cells, hc⟩ := own_typed hr.2.2.1 gd e
      have := hd
      unfold IsRf at this
      rw [hc] at this
      simp at this
    by_cases hlt : i < ps.length ∧ i < 300
    · obtain ⟨hlt, hlt3⟩ := hlt
      obtain ⟨bq, oq, rfl, hblt, hcells⟩ := (HRD.out.below (by rw [← HBW.out]; exact bb)).old (by omega)
      obtain ⟨q0, q1, q2⟩ := hcells i hlt
      clear hcells
      have t0 : (i : Int) < (ps.length : Int) := by omega
      have t1 : (i : Int) < 300 := by omega
      have d2 : decide (i < ps.length) = true := decide_eq_true hlt
      have d3 : decide (i < 300) = true := decide_eq_true hlt3
      obtain ⟨pc, hp⟩ : ∃ pc, pc = ps[i] := ⟨_, rfl⟩
      rw [← hp] at q0 q1 q2
      have HP := Lib.hid hp
      clear hp
      go_upto_if 44 with fail
      go_cut [6] (fun v6 wx => ∃ p', v6 = .pointer (some ⟨gr, 0, none⟩) ∧ IsRd wx B gr vr xs p' ∧ IsRf wx gd (.slice Ab xs.length cb) p' ∧ Below B W wx ∧ B ≤ wx.heap.size)
      case first =>
        cases hal : pc.al
        · rw [hal] at q2
          go_wp2_with fail
          go_meet
          exact ⟨p, rfl, hr, hd, bb, ss⟩
        · rw [hal] at q2
          go_wp2_with fail
          refine (ralign_any B gr vr xs p _ (by exact hr)).mono ?_
          rintro e w3 ⟨rfl, h3, f3⟩
          have hd3 := hd.fr f3 (fun h => hne h.symm)
          obtain ⟨bb3, ss3⟩ := f3.one bb ss hr.2.1
          go_wp2_with fail
          refine (rfalign_any gd _ p _ (by omega) hd3).mono ?_
          rintro e w4 ⟨rfl, h4, f4⟩
          go_wp2_with fail
          go_meet
          exact ⟨_, rfl, h3.fr f4 hne (fun k hk hs => hnv (by rw [hk, hs])), h4, (f4.one bb3 ss3 hgd).1, (f4.one bb3 ss3 hgd).2⟩
      case rest =>
        clear hr hd bb ss q0 q1 q2 hpl hblt
        obtain ⟨p', rfl, hr, hd, bb, ss⟩ := hcut
        have hpl := hr.2.2.2.2.1
        obtain ⟨bl', ol', hA', _, hc5⟩ := (HRD.out.below (by rw [← HBW.out]; exact bb)).old (by omega)
        obtain ⟨rfl, rfl⟩ : bq = bl' ∧ oq = ol' := by simpa using hA'
        obtain ⟨_, k1, _⟩ := hc5 i hlt
        rw [← HP.out] at k1
        have hblB : bq < B := by
          obtain ⟨b', o', hA2, hb', _⟩ := HRD.out.old (by omega)
          have : bq = b' ∧ oq = o' := by simpa using hA2
          rw [HBW.out]
          omega
        clear hc5 hA'
        by_cases hv : 0 ≤ pc.n ∧ pc.n ≤ 32 ∧ (p' : Int) + pc.n ≤ 8 * xs.length
        · obtain ⟨v0, v1, v2⟩ := hv
          go_wp2_with fail
          refine (get_any B gr vr xs p' pc.n _ (by exact hr) v0 v1 v2).mono ?_
          rintro e w3 ⟨rfl, h3, f3⟩
          have k3 := f3.cell k1 (by show ¬ bq = gr; have := hr.2.1; omega)
          have hd3 := hd.fr f3 (fun h => hne h.symm)
          obtain ⟨bb3, ss3⟩ := f3.one bb ss hr.2.1
          clear k1 f3
          go_wp2_with fail
          refine (rget_any gd _ xs p' pc.n w3 hd3 (HB0.out.below (by rw [← HBW.out]; exact bb3)) HX.out (by omega) hpl v0 v1 v2).mono ?_
          rintro e w4 ⟨rfl, hd5, f4⟩
          have hr5 := h3.fr f4 hne (fun k hk hs => hnv (by rw [hk, hs]))
          obtain ⟨bb5, ss5⟩ := f4.one bb3 ss3 hgd
          clear hr hd bb ss h3 hd3 bb3 ss3 k3 f4
          generalize got (ofb xs) p' pc.n.toNat = G
          have z0 : ((G : Int) != (G : Int)) = false := by simp
          have c1 : w4.cell? ⟨gd, 1, none⟩ = some (.int .i64 (p' + pc.n.toNat : Int)) := (blk_cell hd5 1).trans rfl
          have HAT := Lib.hid (fun (n : Nat) => at_any gr (p' + pc.n.toNat : Int) (w4.drewN n) ((blk_cell hr5.1 2).trans rfl))
          have HLE := Lib.hid (fun (n : Nat) => left_any B gr vr xs (p' + pc.n.toNat) (w4.drewN n) (by exact hr5))
          have HRL := Lib.hid (fun (n : Nat) => rleft_any gd Ab xs.length cb (p' + pc.n.toNat) (w4.drewN n) (by omega) hr5.2.2.2.2.1 (by exact hd5))
          have z1 : ((((p' + pc.n.toNat : Nat) : Int)) != ((p' + pc.n.toNat : Nat) : Int)) = false := by simp
          have z2 : ((8 * (xs.length : Int) - ((p' + pc.n.toNat : Nat) : Int)) != (8 * (xs.length : Int) - ((p' + pc.n.toNat : Nat) : Int))) = false := by simp
          go_wp2_with fail
          go_quiet (first | (go_at_call 31; exact Calls.quiet_of_same ((HAT.out _).mono (fun _ _ h => ⟨h.1, h.2.symm⟩))) | (go_at_call 12; exact Calls.quiet_of (HLE.out _)) | (go_at_call 32; exact Calls.quiet_of (HRL.out _)))
          go_wp2
          go_roundg (gk - 1)
          case measure => have := HG.out; omega
          case rel => exact ⟨i + 1, p' + pc.n.toNat, by have := HG.out; simp only [Hid]; omega, by go_num, hr5, hd5, pw_below_drewN bb5 _, ss5, hgd⟩
        · have hv' : pc.n < 0 ∨ 32 < pc.n ∨ 8 * (xs.length : Int) - p' < pc.n := by omega
          clear hv
          go_wp2_with fail
          refine (get_no B gr vr xs p' pc.n _ (by exact hr) hv').mono ?_
          rintro e w3 ⟨rfl, hq3⟩
          have f3 := quiet_fr hq3
          clear hq3
          have k3 := f3.cell k1 (fun h => h)
          have hd3 := hd.fr f3 (fun h => h)
          have hr3 := hr.fr f3 (fun h => h) (fun _ _ h => h)
          have bb3 : Below B W w3 := Fr.then_below bb f3 ss (fun k hk => hk.elim)
          have ss3 : B ≤ w3.heap.size := Nat.le_trans ss f3.size
          clear k1 f3
          go_wp2_with fail
          refine (rget_no gd Ab xs.length cb p' pc.n w3 hd3 (by omega) hpl hv').mono ?_
          rintro e w4 ⟨rfl, hq4⟩
          have f4 := quiet_fr hq4
          clear hq4
          have hd5 := hd3.fr f4 (fun h => h)
          have hr5 := hr3.fr f4 (fun h => h) (fun _ _ h => h)
          have bb5 : Below B W w4 := Fr.then_below bb3 f4 ss3 (fun k hk => hk.elim)
          have ss5 : B ≤ w4.heap.size := Nat.le_trans ss3 f4.size
          clear hr hd bb ss hr3 hd3 bb3 ss3 k3 f4 hv'
          have c1 : w4.cell? ⟨gd, 1, none⟩ = some (.int .i64 (p' : Int)) := (blk_cell hd5 1).trans rfl
          have HAT := Lib.hid (fun (n : Nat) => at_any gr (p' : Int) (w4.drewN n) ((blk_cell hr5.1 2).trans rfl))
          have HLE := Lib.hid (fun (n : Nat) => left_any B gr vr xs (p') (w4.drewN n) (by exact hr5))
          have HRL := Lib.hid (fun (n : Nat) => rleft_any gd Ab xs.length cb (p') (w4.drewN n) (by omega) hr5.2.2.2.2.1 (by exact hd5))
          have z1 : ((((p' : Nat) : Int)) != ((p' : Nat) : Int)) = false := by simp
          have z2 : ((8 * (xs.length : Int) - ((p' : Nat) : Int)) != (8 * (xs.length : Int) - ((p' : Nat) : Int))) = false := by simp
          go_wp2_with fail
          go_quiet (first | (go_at_call 31; exact Calls.quiet_of_same ((HAT.out _).mono (fun _ _ h => ⟨h.1, h.2.symm⟩))) | (go_at_call 12; exact Calls.quiet_of (HLE.out _)) | (go_at_call 32; exact Calls.quiet_of (HRL.out _)))
          go_wp2
          go_roundg (gk - 1)
          case measure => have := HG.out; omega
          case rel => exact ⟨i + 1, p', by have := HG.out; simp only [Hid]; omega, by go_num, hr5, hd5, pw_below_drewN bb5 _, ss5, hgd⟩
    · have hend : decide (i < ps.length) = false ∨ (decide (i < ps.length) = true ∧ decide ((i : Int) < 300) = false) := by
        rcases Nat.lt_or_ge i ps.length with h | h
        · exact .inr ⟨decide_eq_true h, decide_eq_false (fun h2 => hlt ⟨h, by omega⟩)⟩
        · exact .inl (decide_eq_false (by omega))
      clear hlt
      rcases hend with z1 | ⟨z1, z2⟩
      · go_wp2_with fail
        refine (awake_any _).mono ?_
        rintro e w6 ⟨rfl, b6⟩
        go_wp2
        go_ret
        exact ⟨rfl, bb.trans (b6.mono ss)⟩
      · go_wp2_with fail
        refine (awake_any _).mono ?_
        rintro e w6 ⟨rfl, b6⟩
        go_wp2
        go_ret
        exact ⟨rfl, bb.trans (b6.mono ss)⟩

end Go.Proofs.Ytbpckacgdkikdaa
