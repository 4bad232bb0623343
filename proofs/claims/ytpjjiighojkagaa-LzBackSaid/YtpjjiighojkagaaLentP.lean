/- markPiece, LentPieces, KeptPieces: what each does, over the memory. -/
import Derived.Test.YtpjjiighojkagaaLent
import Derived.Test.YtpjjiighojkagaaParse
import Derived.Test.YtpjjiighojkagaaWEqStruct
set_option linter.unusedVariables false
set_option linter.unusedSimpArgs false
namespace Go.Proofs.Ytpjjiighojkagaa
open Go.RowKit Go.Proofs.YtpjjiighojkagaaW.PrintWords

def mp (k i : Int) : Pie := ⟨0, mk k i, 0⟩

set_option maxHeartbeats 400000 in
theorem markPiece_any (k i : Int) (W : World) (h0 : 0 ≤ k) (h1 : k ≤ 1000000) (h2 : 0 ≤ i) (h3 : i ≤ 4294967296000000) :
    Calls Try.prog 26 #[.int .i64 k, .int .i64 i] W fun e W' => e = .returned (.agg #[.int .u8 0, .int .i64 (mk k i), .int .i64 0]) ∧ W' = W.alloc (.cells #[.int .u8 0, .int .i64 (mk k i), .int .i64 0] 35) := by
  go_enter Try.func26, Try.ntmps26
  go_wp2_with fail
  refine (mark_any k i _ h0 h1 h2 h3).mono ?_
  rintro e w' ⟨rfl, hw⟩
  subst hw
  generalize hm : mk k i = m
  have HM := Lib.hid hm
  clear hm
  go_wp2
  rw [HM.out]
  exact bodyPost_ret_by (results_cell_row (p := 4) (ty := 35) rfl _ _ W.heap.size 35 #[.int .u8 0, .int .i64 m, .int .i64 0] (0, 0) _ rfl (heap_alloc_new W _) Try.underlying35 rfl (by kernel_rfl)) rfl ⟨rfl, rfl⟩

theorem RdsQ.cellsAt {W : World} {ad : Addr} {n c : Nat} {ps : List Pie} (h : RdsQ W (.slice (some ad) n c) ps) (j : Nat) (u : Value) (hu : (cellsQ ps)[j]? = some u) : W.cell? (ad.add j) = some u := by
  have hj : j < ps.length * 3 := by have := (List.getElem?_eq_some_iff.1 hu).1; rwa [cellsQ_length] at this
  have hq : j / 3 < ps.length := by omega
  obtain ⟨A', c', e, _, _, _, _, h5⟩ := h
  injection e with e1 e2 e3
  obtain ⟨ad', e4, hc⟩ := h5 (by omega)
  rw [e4] at e1
  obtain rfl := Option.some.inj e1
  obtain ⟨a0, a1, a2⟩ := cellsQ_at ps (j / 3) hq
  obtain ⟨b0, b1, b2⟩ := hc (j / 3) hq
  have hr : j = j / 3 * 3 ∨ j = j / 3 * 3 + 1 ∨ j = j / 3 * 3 + 2 := by omega
  rcases hr with hr | hr | hr
  · rw [hr, a0] at hu; rw [hr, b0]; exact hu
  · rw [hr, a1] at hu; rw [hr, b1]; exact hu
  · rw [hr, a2] at hu; rw [hr, b2]; exact hu

/-- The marks behind a row of pieces that was lent. -/
def marksP (j : Nat) : List Pie := (List.range j).map fun (i : Nat) => mp 1 (i : Int)
theorem marksP_succ (j : Nat) : marksP (j + 1) = marksP j ++ [mp 1 (j : Int)] := by simp [marksP, List.range_succ]
theorem marksP_length (j : Nat) : (marksP j).length = j := by simp [marksP]
def IsLentP (W : World) (base b : Nat) (ps : List Pie) : Prop :=
  W.ownsRow base 35 3 (.slice (some ⟨b, 0, none⟩) (ps.length + 12) (ps.length + 12)) (ps.length + 12) (cellsQ (ps ++ marksP 12))
theorem cellsQ_oneCell (ps : List Pie) : ∀ u ∈ cellsQ ps, u.oneCell' = true := by
  intro u hu
  simp only [cellsQ, List.mem_flatMap] at hu
  obtain ⟨p, _, hp⟩ := hu
  simp at hp
  rcases hp with rfl | rfl | rfl <;> rfl
theorem IsLentP.fr {S : Nat → Prop} {W W1 : World} {base b : Nat} {ps : List Pie} (h : IsLentP W base b ps) (hf : Fr S W W1) (hn : ¬ S b) : IsLentP W1 base b ps := hf.own h (fun k hk => by cases hk; exact hn)
theorem IsLentP.rds {W : World} {base b : Nat} {ps : List Pie} (h : IsLentP W base b ps) (hok : ∀ p ∈ ps, p.ok) (hl : ps.length ≤ 100000) : RdsQ W (.slice (some ⟨b, 0, none⟩) ps.length (ps.length + 12)) ps := by
  refine ⟨_, _, rfl, by omega, fun h => by simp at h, by omega, hok, fun hp => ⟨_, rfl, fun j hj => ?_⟩⟩
  have hj' : j < (ps ++ marksP 12).length := by rw [List.length_append]; omega
  obtain ⟨c0, c1, c2⟩ := cellsQ_at (ps ++ marksP 12) j hj'
  have e : (ps ++ marksP 12)[j] = ps[j] := List.getElem_append_left hj
  rw [e] at c0 c1 c2
  rw [add_plain, add_plain, add_plain]
  exact ⟨(World.ownsRow.cellAt h _ (by omega)).trans c0, (World.ownsRow.cellAt h _ (by omega)).trans c1, (World.ownsRow.cellAt h _ (by omega)).trans c2⟩

set_option maxHeartbeats 1000000 in
set_option maxRecDepth 100000 in
theorem lentP_any (v : Value) (ps : List Pie) (W : World) (h : RdsQ W v ps) (hl : ps.length ≤ 100000) :
    Calls Try.prog 9 #[v] W fun e W' => ∃ b, e = .returned (.slice (some ⟨b, 0, none⟩) ps.length (ps.length + 12)) ∧ IsLentP W' W.heap.size b ps ∧ Below W.heap.size W W' := by
  obtain ⟨i0, hi, hzz⟩ := Option.map_eq_some_iff.1 infoPiece
  simp only [Prod.mk.injEq] at hzz
  obtain ⟨hz0, hz1, hz2⟩ := hzz
  have h0 := h
  obtain ⟨A, c, rfl, hc1, hc2, hc3, hok, hcell⟩ := h
  have hA : A = none → ps.length = 0 ∧ c = 0 := fun e => ⟨by have := hc2 e; omega, hc2 e⟩
  have hcells : ∀ ad, A = some ad → ∀ j u, (cellsQ ps)[j]? = some u → W.cell? (ad.add j) = some u := by
    intro ad e j u hu
    subst e
    exact h0.cellsAt j u hu
  clear hcell hc2 h0
  go_enter Try.func9, Try.ntmps9
  go_wp2_with (at_make; refine wpList_make_own _ rfl _ _ 22 rfl W.heap.size 35 i0 _ 3 Try.underlying22 hi hz0 hz1 _ _ _ (ps.length + 12) rfl rfl (by omega) (by rw [hz2]; omega) (by simp only [maxLen]; omega) (Nat.le_refl _) ?_)
  intro w1 ho1 hg1
  have f1 : Below W.heap.size W w1 := (Below.refl _ _).grown hg1 (Nat.le_refl _) (fun k hk => by simp at hk)
  go_wp2_with (at_builtin; refine wpList_append_fits_any _ rfl _ _ 22 rfl W.heap.size 35 i0 3 Try.underlying22 hi hz1 W.heap.size 0 (ps.length + 12) [] rfl ho1 A ps.length c (cellsQ ps) rfl (cellsQ_length ps) hA (fun ad e j u hu => pw_cell_below f1 (hcells ad e j u hu)) (cellsQ_oneCell ps) (by omega) ?_)
  intro w2 ho2 hg2
  have f2 : Below W.heap.size W w2 := f1.grown hg2 f1.size (fun k hk => Nat.le_of_eq (by simpa using hk))
  try simp only [Nat.zero_add, List.nil_append] at ho2
  go_wp2_with fail
  try rw [Nat.zero_add]
  go_loopw [3, 4] (fun v3 v4 wr => ∃ i : Nat, i ≤ 12 ∧ v4 = .int .i64 (i : Int) ∧ v3 = .slice (some ⟨W.heap.size, 0, none⟩) (ps.length + i) (ps.length + 12) ∧ wr.ownsRow W.heap.size 35 3 (.slice (some ⟨W.heap.size, 0, none⟩) (ps.length + i) (ps.length + 12)) (ps.length + i) (cellsQ (ps ++ marksP i)) ∧ Below W.heap.size W wr ∧ W.heap.size ≤ wr.heap.size) (fun _ v4 _ => 12 - (intOf v4).toNat)
  case atStart => exact ⟨0, by omega, rfl, rfl, by simpa [marksP] using ho2, f2, f2.size⟩
  case round =>
    clear ho1 hg1 f1 ho2 hg2 f2 hcells hA
    obtain ⟨i, hi12, rfl, rfl, ho, bb, ss⟩ := hrel
    by_cases hlt : i < 12
    · have z0 : (i : Int) < 12 := by omega
      go_wp2_with fail
      refine (markPiece_any 1 (i : Int) _ (by omega) (by omega) (by omega) (by omega)).mono ?_
      rintro e w' ⟨rfl, hw⟩
      have ho' : w'.ownsRow W.heap.size 35 3 (.slice (some ⟨W.heap.size, 0, none⟩) (ps.length + i) (ps.length + 12)) (ps.length + i) (cellsQ (ps ++ marksP i)) := by rw [hw]; exact ho.alloc _
      have bb' : Below W.heap.size W w' := by rw [hw]; exact bb.alloc ss _
      have ss' : W.heap.size ≤ w'.heap.size := by rw [hw]; simp; omega
      clear hw ho bb ss
      go_wp2_with (at_builtin; refine wpList_append_fits _ rfl _ _ 22 rfl W.heap.size 35 i0 3 Try.underlying22 hi hz1 W.heap.size (ps.length + i) (ps.length + 12) (cellsQ (ps ++ marksP i)) rfl (ho'.alloc _) ⟨w'.heap.size, 0, none⟩ 1 1 [.int .u8 0, .int .i64 (mk 1 (i : Int)), .int .i64 0] rfl rfl (by simpa using World.news_of_block (cs := #[.int .u8 0, .int .i64 (mk 1 (i : Int)), .int .i64 0]) (t := 35) (fr := (0, 0)) (heap_alloc_new w' _)) (by simp [Value.oneCell']) (by omega) ?_)
      intro w2 ho2 hg2
      have bb2 : Below W.heap.size W w2 := (bb'.alloc ss' _).grown hg2 (by simp; omega) (fun k hk => Nat.le_of_eq (by simpa using hk))
      have ho2' : w2.ownsRow W.heap.size 35 3 (.slice (some ⟨W.heap.size, 0, none⟩) (ps.length + i + 1) (ps.length + 12)) (ps.length + i + 1) (cellsQ (ps ++ marksP (i + 1))) := by
        rw [marksP_succ, ← List.append_assoc, cellsQ_append]
        exact ho2
      clear ho2 hg2
      go_wp2
      go_roundw
      case rel => exact ⟨i + 1, by omega, by go_num, by simp [Nat.add_assoc], ho2', bb2, bb2.size⟩
      case measure => simp [intOf]; omega
    · have hie : i = 12 := by omega
      subst hie
      have t2 : (ps.length : Int) ≤ (ps.length : Int) + 12 := by omega
      go_wp2
      go_ret
      exact ⟨W.heap.size, by simp, ho, bb⟩

theorem eqPiece (d : Nat) (w : World) (x0 x1 x2 y0 y1 y2 : Int) :
    (Op.equalIn (d + 2) 35 (.agg #[.int .u8 x0, .int .i64 x1, .int .i64 x2]) (.agg #[.int .u8 y0, .int .i64 y1, .int .i64 y2])).run Try.prog w = .ok ((x0 == y0) && ((x1 == y1) && (x2 == y2))) w := by
  refine eqA_of Try.underlying35 (by kernel_rfl) ?_
  exact eqf_cons (by rfl) (by go_simp; rfl) (by go_simp; rfl) (by go_simp) (eqf_cons (by rfl) (by go_simp; rfl) (by go_simp; rfl) (by go_simp) (eqf_last (by rfl) (by go_simp; rfl) (by go_simp; rfl) (by go_simp)))
theorem eqPiece_same (p : Pie) (w : World) : (binOp .eql 35 (.agg #[.int .u8 p.b, .int .i64 p.len, .int .i64 p.dist]) (.agg #[.int .u8 p.b, .int .i64 p.len, .int .i64 p.dist])).run Try.prog w = .ok (.bool true) w := by
  have h := eqPiece 9998 w p.b p.len p.dist p.b p.len p.dist
  simp only [BEq.rfl, Bool.and_self] at h
  simp only [binOp, Op.equal, Sem.run_bind]
  rw [show Op.maxDepth = 9998 + 2 from rfl, h]
  rfl

end Go.Proofs.Ytpjjiighojkagaa
