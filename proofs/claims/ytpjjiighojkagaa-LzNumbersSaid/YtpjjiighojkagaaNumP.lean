/- LzNumbers: its rows of pieces, plain; CopyPieces; the document's piece that is tried. -/
import Derived.Test.YtpjjiighojkagaaRegion
import Derived.Test.YtpjjiighojkagaaLzExp
import Derived.Test.YtpjjiighojkagaaLzRuns
set_option linter.unusedVariables false
set_option linter.unusedSimpArgs false
namespace Go.Proofs.Ytpjjiighojkagaa
open Go.RowKit Go.Proofs.YtpjjiighojkagaaW.PrintWords

def lP (n : Nat) : List Pie := [⟨1, 0, 0⟩, ⟨2, 0, 0⟩, ⟨3, 0, 0⟩, ⟨4, 0, 0⟩] ++ List.replicate n ⟨0, 258, 4⟩
theorem lP_length (n : Nat) : (lP n).length = 4 + n := by simp [lP]; omega
theorem lP_succ (n : Nat) : lP (n + 1) = lP n ++ [⟨0, 258, 4⟩] := by simp [lP, List.replicate_succ']
theorem lP_ok (n : Nat) : ∀ p ∈ lP n, p.ok := by
  intro p hp
  simp only [lP, List.mem_append, List.mem_replicate] at hp
  rcases hp with hp | ⟨_, rfl⟩
  · simp at hp
    rcases hp with rfl | rfl | rfl | rfl <;> simp [Pie.ok]
  · simp [Pie.ok]
def fullP (n : Nat) : List Pie := [⟨5, 0, 0⟩, ⟨6, 0, 0⟩] ++ (List.range n).map (fun i => ⟨0, 258, 1 + ((i % 2 : Nat) : Int)⟩)
theorem fullP_length (n : Nat) : (fullP n).length = 2 + n := by simp [fullP]; omega
theorem fullP_succ (n : Nat) : fullP (n + 1) = fullP n ++ [⟨0, 258, 1 + ((n % 2 : Nat) : Int)⟩] := by simp [fullP, List.range_succ]
theorem fullP_ok (n : Nat) : ∀ p ∈ fullP n, p.ok := by
  intro p hp
  simp only [fullP, List.mem_append, List.mem_map] at hp
  rcases hp with hp | ⟨i, _, rfl⟩
  · simp at hp
    rcases hp with rfl | rfl <;> simp [Pie.ok]
  · refine ⟨by simp, by simp, ?_, ?_⟩
    · show -9223372036854775808 ≤ 1 + ((i % 2 : Nat) : Int); omega
    · show 1 + ((i % 2 : Nat) : Int) ≤ 9223372036854775807; omega
theorem exp_lit {o : List Int} {b : Int} (h : o.length < 65536) : expStep o ⟨b, 0, 0⟩ = some (o ++ [b]) := by
  have e : expOne o ⟨b, 0, 0⟩ = o ++ [b] := by simp [expOne, isLit]
  unfold expStep
  rw [e, if_pos (by simp [isLit]), if_neg (by rw [List.length_append]; simp; omega)]
theorem exp_mat {o : List Int} {n d : Int} (hn : 3 ≤ n) (hn2 : n ≤ 258) (hd : 1 ≤ d) (hd2 : d ≤ 32768) (hd3 : d ≤ (o.length : Int)) (h : o.length + n.toNat ≤ 65536) : ∃ r, expStep o ⟨0, n, d⟩ = some r ∧ r.length = o.length + n.toNat := by
  have hno : isLit ⟨0, n, d⟩ = false := by
    simp only [isLit, decide_eq_false_iff_not]
    rintro ⟨h1, _⟩
    have h1' : n = 0 := h1
    omega
  have e : expOne o ⟨0, n, d⟩ = copyN o d.toNat n.toNat := by unfold expOne; rw [hno, if_neg (by simp)]
  have hl := copyN_length o d.toNat n.toNat
  have hm : isMat ⟨0, n, d⟩ o.length = true := by
    simp only [isMat, decide_eq_true_eq]
    exact ⟨trivial, hn, hn2, hd, hd2, hd3⟩
  refine ⟨copyN o d.toNat n.toNat, ?_, hl⟩
  unfold expStep
  rw [e, hm, if_pos (by simp), if_neg (by omega)]
theorem exp_big {o : List Int} {p : Pie} (h : 65536 < (expOne o p).length) : expStep o p = none := by
  unfold expStep
  by_cases hc : (isLit p || isMat p o.length) = true
  · rw [if_pos hc, if_pos h]
  · rw [if_neg hc]
theorem exp_full : ∀ n, n ≤ 254 → ∃ o, expFold [] (fullP n) = some o ∧ o.length = 2 + 258 * n
  | 0, _ => ⟨[5, 6], by decide, rfl⟩
  | n + 1, h => by
    obtain ⟨o, h1, h2⟩ := exp_full n (by omega)
    obtain ⟨r, h3, h4⟩ := exp_mat (o := o) (n := 258) (d := 1 + ((n % 2 : Nat) : Int)) (by omega) (by omega) (by omega) (by omega) (by omega) (by have : (258 : Int).toNat = 258 := rfl; omega)
    have e258 : (258 : Int).toNat = 258 := rfl
    refine ⟨r, ?_, by omega⟩
    rw [fullP_succ, expFold_append, h1]
    show (expStep o _).bind _ = _
    rw [h3]
    rfl
theorem expFold_one (o : List Int) (p : Pie) : expFold o [p] = expStep o p := by
  show (expStep o p).bind _ = _
  cases expStep o p <;> rfl
theorem expFold_cons (o : List Int) (p : Pie) (ps : List Pie) : expFold o (p :: ps) = (expStep o p).bind (fun o => expFold o ps) := rfl
theorem full_two : ∃ r, expFold [] (fullP 254 ++ [⟨1, 0, 0⟩, ⟨1, 0, 0⟩]) = some r ∧ r.length = 65536 := by
  obtain ⟨o, h1, h2⟩ := exp_full 254 (Nat.le_refl _)
  refine ⟨o ++ [1] ++ [1], ?_, by simp [h2]⟩
  rw [expFold_append, h1]
  show expFold o [_, _] = _
  rw [expFold_cons, exp_lit (by omega)]
  show expFold (o ++ [1]) [_] = _
  rw [expFold_one, exp_lit (by simp; omega)]
theorem full_three : expFold [] (fullP 254 ++ [⟨1, 0, 0⟩, ⟨1, 0, 0⟩, ⟨1, 0, 0⟩]) = none := by
  obtain ⟨o, h1, h2⟩ := exp_full 254 (Nat.le_refl _)
  rw [expFold_append, h1]
  show expFold o [_, _, _] = _
  rw [expFold_cons, exp_lit (by omega)]
  show expFold (o ++ [1]) [_, _] = _
  rw [expFold_cons, exp_lit (by simp; omega)]
  show expFold (o ++ [1] ++ [1]) [_] = _
  rw [expFold_one]
  exact exp_big (by simp [expOne, isLit]; omega)
theorem full_match : expFold [] (fullP 254 ++ [⟨0, 3, 1⟩]) = none := by
  obtain ⟨o, h1, h2⟩ := exp_full 254 (Nat.le_refl _)
  rw [expFold_append, h1]
  show expFold o [_] = _
  rw [expFold_one]
  refine exp_big ?_
  have e : expOne o ⟨0, 3, 1⟩ = copyN o 1 3 := by simp [expOne, isLit]
  rw [e, copyN_length]
  omega

def nz : List Int := [-9223372036854775808, -1, 0, 1, 2, 3, 4, 257, 258, 259, 32767, 32768, 32769, 9223372036854775807]
def nzA : Array Value := #[.int .i64 (-9223372036854775808), .int .i64 (-1), .int .i64 0, .int .i64 1, .int .i64 2, .int .i64 3, .int .i64 4, .int .i64 257, .int .i64 258, .int .i64 259, .int .i64 32767, .int .i64 32768, .int .i64 32769, .int .i64 9223372036854775807]
theorem nzA_at (k : Nat) (h : k < 14) : nzA[k]? = some (.int .i64 (nz.getD k 0)) := by
  match k, h with
  | 0, _ => rfl
  | 1, _ => rfl
  | 2, _ => rfl
  | 3, _ => rfl
  | 4, _ => rfl
  | 5, _ => rfl
  | 6, _ => rfl
  | 7, _ => rfl
  | 8, _ => rfl
  | 9, _ => rfl
  | 10, _ => rfl
  | 11, _ => rfl
  | 12, _ => rfl
  | 13, _ => rfl
theorem nz_bd (k : Nat) (h : k < 14) : -9223372036854775808 ≤ nz.getD k 0 ∧ nz.getD k 0 ≤ 9223372036854775807 := by
  match k, h with
  | 0, _ => decide
  | 1, _ => decide
  | 2, _ => decide
  | 3, _ => decide
  | 4, _ => decide
  | 5, _ => decide
  | 6, _ => decide
  | 7, _ => decide
  | 8, _ => decide
  | 9, _ => decide
  | 10, _ => decide
  | 11, _ => decide
  | 12, _ => decide
  | 13, _ => decide

set_option maxHeartbeats 400000 in
theorem copyP_any (B : Nat) (v : Value) (ps : List Pie) (W : World) (h : W.ownsRow B 35 3 v ps.length (cellsQ ps)) (hl : ps.length ≤ 1000000) :
    Calls Try.prog 17 #[v] W fun e W' => ∃ v', e = .returned v' ∧ W'.ownsRow W.heap.size 35 3 v' ps.length (cellsQ ps) ∧ Below W.heap.size W W' := by
  have HH := Lib.hid h
  obtain ⟨A, c, rfl⟩ := own_slice h
  clear h
  go_enter Try.func17, Try.ntmps17
  go_wp2_with (at_builtin; refine append_owns W.heap.size B rfl _ _ 22 35 _ 3 24 rfl Try.underlying22 infoPiece rfl (by decide) (by decide) (.slice none 0 0) (.slice A ps.length c) 0 ps.length [] (cellsQ ps) rfl rfl (World.ownsRow_nil _ _ _ _) HH.out (cellsQ_one ps) (Nat.le_refl _) (by omega) ?_)
  intro v1 w1 ho1 hg1
  have hb1 : Below W.heap.size W w1 := (Below.refl _ W).grown hg1 (Nat.le_refl _) (fun k hk => by simp [Value.ownBlock] at hk)
  have HO := Lib.hid ho1
  have HB := Lib.hid hb1
  clear ho1 hb1 hg1
  go_wp2
  go_ret
  exact ⟨_, rfl, HO.out, HB.out⟩

/-- The piece that is tried lies at gp; nothing of the world at the round's head has turned, nor of a later world. -/
structure RN (gp : Nat) (b x y : Int) (wr wz w : World) : Prop where
  p : w.heap[gp]? = some (.cells #[.int .u8 b, .int .i64 x, .int .i64 y] 35 (0, 0))
  bel : Below wr.heap.size wr w
  bz : Below wz.heap.size wz w
  hp : wr.heap.size ≤ gp
section
variable {gp : Nat} {b x y : Int} {wr wz w w' : World}
theorem RN.ss (h : RN gp b x y wr wz w) : wr.heap.size ≤ w.heap.size := h.bel.size
theorem RN.below (h : RN gp b x y wr wz w) (hb : Below w.heap.size w w') : RN gp b x y wr wz w' := ⟨(hb.block gp (blk_lt h.p)).trans h.p, h.bel.trans (hb.mono h.bel.size), h.bz.trans (hb.mono h.bz.size), h.hp⟩
theorem RN.drew (h : RN gp b x y wr wz w) (n : Nat) : RN gp b x y wr wz (w.drewN n) := ⟨h.p, pw_below_drewN h.bel n, pw_below_drewN h.bz n, h.hp⟩
theorem RN.re (h : RN gp b x y wr wz w) : RN gp b x y wr w w := ⟨h.p, h.bel, Below.refl _ _, h.hp⟩
theorem RN.back (h : RN gp b x y wr wz w) : RN gp b x y wr wr w := ⟨h.p, h.bel, h.bel, h.hp⟩
theorem RN.c0 (h : RN gp b x y wr wz w) : w.cell? ⟨gp, 0, none⟩ = some (.int .u8 b) := (blk_cell h.p 0).trans rfl
theorem RN.c1 (h : RN gp b x y wr wz w) : w.cell? ⟨gp, 1, none⟩ = some (.int .i64 x) := (blk_cell h.p 1).trans rfl
theorem RN.c2 (h : RN gp b x y wr wz w) : w.cell? ⟨gp, 2, none⟩ = some (.int .i64 y) := (blk_cell h.p 2).trans rfl
theorem RN.lt (h : RN gp b x y wr wz w) : gp < w.heap.size := blk_lt h.p
theorem RN.grown (h : RN gp b x y wr wz w) {v : Value} {B : Nat} (hg : w.grownBy w' v.ownBlock) (hB : gp < B) (hz : wz.heap.size ≤ B) (hv : ∀ k, v.ownBlock = some k → B ≤ k) : RN gp b x y wr wz w' :=
  ⟨(hg.block gp (blk_lt h.p) (fun e => by have := hv gp e.symm; omega)).trans h.p, h.bel.grown hg h.bel.size (fun k hk => by have := hv k hk; have := h.hp; omega), h.bz.grown hg h.bz.size (fun k hk => by have := hv k hk; omega), h.hp⟩
theorem RN.quiet (h : RN gp b x y wr wz w) (hd : ∃ d, w' = w.drewN d) : RN gp b x y wr wz w' := by
  obtain ⟨d, rfl⟩ := hd
  exact h.drew d
theorem RN.set {b' : Int} (h : RN gp b x y wr wz w) : RN gp b' x y wr wr (w.setCell ⟨gp, 0, none⟩ (.int .u8 b')) :=
  ⟨(blk_set h.p 0 _).trans (by simp), h.bel.setCell h.hp _, h.bel.setCell h.hp _, h.hp⟩
end

end Go.Proofs.Ytpjjiighojkagaa
