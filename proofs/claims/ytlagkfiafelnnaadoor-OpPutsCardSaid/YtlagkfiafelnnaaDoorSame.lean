/- The small functions that the statements call beside the program's: SameBytes where the rows are equal, CopyBytes, Pick. -/
import Derived.Test.YtlagkfiafelnnaaDoorFr
import Derived.Test.YtlagkfiafelnnaaDoorAllo
import Derived.Test.YtlagkfiafelnnaaDoorProg
import Derived.Lib.Hide
import Derived.Deep.DeepCutAuto
import Derived.Maps.AppendAt
import Derived.KernelRfl
set_option linter.unusedVariables false
set_option linter.unusedSimpArgs false
namespace Go.Proofs.YtlagkfiafelnnaaDoor
open Go.RowKit Go.Proofs.YtlagkfiafelnnaaDoorW.PrintWords

/-! ### SameBytes, of equal rows -/
set_option maxHeartbeats 800000 in
set_option maxRecDepth 100000 in
theorem same_yes (v v' : Value) (xs : List Int) (W : World) (h : Rds W .u8 v xs) (h' : Rds W .u8 v' xs) :
    Calls Tryd.prog 16 #[v, v'] W fun e W' => e = .returned (.bool true) ∧ ∃ d, W' = W.drewN d := by
  obtain ⟨A, c, rfl, hc, h0, hr⟩ := h
  obtain ⟨A', c', rfl, hc', h0', hr'⟩ := h'
  have hm := hr.2.1
  clear h0 h0' hc hc'
  have HR := Lib.hid hr
  have HR' := Lib.hid hr'
  clear hr hr'
  go_enter Tryd.func16, Tryd.ntmps16
  go_wp2
  go_loopw [5] (fun v5 wr => ∃ (j d : Nat), j ≤ xs.length ∧ v5 = .int .i64 (j : Int) ∧ wr = W.drewN d) (fun v5 _ => xs.length - (intOf v5).toNat)
  case atStart => exact ⟨0, 0, Nat.zero_le _, rfl, rfl⟩
  case round =>
    obtain ⟨j, d, hj, rfl, rfl⟩ := hrel
    by_cases hlt : j < xs.length
    · obtain ⟨ad, e1, hx⟩ := HR.out.at_ (j : Int) (by omega) (by omega)
      obtain ⟨ad', e2, hx'⟩ := HR'.out.at_ (j : Int) (by omega) (by omega)
      subst e1
      subst e2
      rw [Int.toNat_natCast] at hx hx'
      obtain ⟨y, hy⟩ : ∃ y, y = rd xs (j : Int) := ⟨_, rfl⟩
      rw [← hy] at hx hx'
      clear hy
      have t0 : (0 : Int) ≤ (j : Int) := by omega
      have t1 : (j : Int) < (xs.length : Int) := by omega
      have d0 : (y != y) = false := by simp
      go_wp2
      go_quiet (fail)
      go_wp2
      go_roundw
      case rel => exact ⟨j + 1, _, by omega, by go_num, rfl⟩
      case measure => simp [intOf]; omega
    · go_wp2
      go_ret
      exact ⟨rfl, d, rfl⟩

/-! ### Pick -/
theorem tmod_pick (x n : Int) (hn : 1 ≤ n) : (x.tmod n < 0 → x % n = x.tmod n + n) ∧ (¬ x.tmod n < 0 → x % n = x.tmod n) := by
  have h1 : x.tmod n = x % n - _ := Int.tmod_eq_emod
  have h2 := Int.emod_nonneg x (show n ≠ 0 by omega)
  have h3 := Int.emod_lt_of_pos x (show 0 < n by omega)
  split at h1 <;> constructor <;> intro h <;> omega

set_option maxHeartbeats 400000 in
theorem pick_any (x n : Int) (W : World) (h1 : 1 ≤ n) (h2 : n ≤ 4611686018427387904) :
    Calls Tryd.prog 26 #[.int .i64 x, .int .i64 n] W fun e W' => e = .returned (.int .i64 (x % n)) ∧ W = W' := by
  obtain ⟨p1, p2⟩ := tmod_pick x n h1
  have q3 := Int.emod_nonneg x (show n ≠ 0 by omega)
  have q4 := Int.emod_lt_of_pos x (show 0 < n by omega)
  have d1 : decide (n < 1) = false := decide_eq_false (by omega)
  have d2 : (n == 0) = false := by rw [beq_eq_false_iff_ne]; omega
  by_cases hs : x.tmod n < 0
  · have hP := p1 hs
    have ht : x.tmod n + n = x % n := hP.symm
    have b1 : -n ≤ x.tmod n := by omega
    have HT := Lib.hid ht
    clear hP ht p1 p2 q3 q4
    have d3 : decide (x.tmod n < 0) = true := decide_eq_true hs
    go_enter Tryd.func26, Tryd.ntmps26
    go_wp2
    go_ret
    exact ⟨by rw [← HT.out]; rfl, rfl⟩
  · have hP := Lib.hid (p2 hs)
    clear p1 p2 q3 q4
    have d3 : decide (x.tmod n < 0) = false := decide_eq_false hs
    go_enter Tryd.func26, Tryd.ntmps26
    go_wp2
    go_ret
    exact ⟨by rw [hP.out]; rfl, rfl⟩

/-! ### append(v, x...): both rows one's own -/
section
variable {P : Program} {W : World} {ops : Array Oper} {rest : List Oper} {o : Oper} {a : Act} {Q : Exit → Act → World → Prop}
theorem append_owns (base base2 : Nat) (hgd : o.guard = none) (s x : Operand) (t e : TypeId) (z : Value) (size bytes : Nat)
    (ho : o.op = .call { callee := .builtin .append, args := #[s, x], argTypes := #[t, t] })
    (ht : P.underlying t = some (.slice e)) (hinfo : (P.info? e).map (fun i => (i.zero, i.size, i.bytes)) = some (some z, size, bytes)) (hz : z.cells.size = size) (hs0 : 0 < size) (hb0 : 0 < bytes)
    (v v2 : Value) (n m : Nat) (xs ys : List Value) (hs : a.eval s = v) (hx : a.eval x = v2)
    (HO : W.ownsRow base e size v n xs) (H2 : W.ownsRow base2 e size v2 m ys) (h1 : ∀ u ∈ ys, u.oneCell' = true) (hbase : base ≤ W.heap.size) (hl : (n + m) * bytes ≤ 140737488355328)
    (h : ∀ v1 w1, w1.ownsRow base e size v1 (n + m) (xs ++ ys) → W.grownBy w1 v.ownBlock → wpList P ops Q rest (a.put o.dst v1) w1) :
    wpList P ops Q (o :: rest) a W := by
  obtain ⟨i0, hi, hzz⟩ := Option.map_eq_some_iff.1 hinfo
  simp only [Prod.mk.injEq] at hzz
  obtain ⟨hz0, hz1, hz2⟩ := hzz
  have hlen : n + m ≤ 140737488355328 := Nat.le_trans (Nat.le_mul_of_pos_right _ hb0) hl
  have hrun : ∃ v1 w1, (Builtin.append_ #[t, t] o.type #[v, v2]).run P W = .ok v1 w1 ∧ w1.ownsRow base e size v1 (n + m) (xs ++ ys) ∧ W.grownBy w1 v.ownBlock := by
    rcases H2.2 with ⟨rfl, rfl⟩ | ⟨g, cap, cur, rfl, _⟩
    · obtain rfl : ys = [] := List.eq_nil_of_length_eq_zero (by have := H2.1; omega)
      refine ⟨v, W, ?_, by simpa using HO, World.grownBy.refl W _⟩
      rcases HO.2 with ⟨rfl, hn⟩ | ⟨g, cap, cur, rfl, _, _, hnc, _⟩
      · simp [Builtin.append_, run_underlying ht, sizeOf, typeInfo, hi, Builtin.lenOf, Builtin.firstCells]
      · simp [Builtin.append_, run_underlying ht, sizeOf, typeInfo, hi, Builtin.lenOf, Builtin.firstCells, hnc, storeCells]
    · have hcells : ∀ j u, ys[j]? = some u → W.cell? ((⟨g, 0, none⟩ : Addr).add j) = some u := by
        intro j u hu
        rw [add_plain, H2.cellAt j (by have := (List.getElem?_eq_some_iff.1 hu).1; rw [← H2.1]; exact this)]
        exact hu
      obtain ⟨v1, w1, hr, h2, h3, _, h5⟩ := run_append_own_at (P := P) W base t o.type e i0 z size bytes ht hi hz0 hz1 hz2 hz hs0 v n xs HO ⟨g, 0, none⟩ m cap ys H2.1 hcells
        h1 (by simp only [maxLen]; omega) hl hbase
      exact ⟨v1, w1, hr, h2, h3⟩
  obtain ⟨v1, w1, hr, hown, hg⟩ := hrun
  refine wpList_plain hgd fun K hK => ?_
  unfold Oper.wp execOp
  simp only [ho, resolve, invoke, builtin, Sem.run_bind, Sem.run_pure, Result.andThen_ok, List.map_toArray, List.map_cons, List.map_nil, hs, hx, hr]
  exact hK _ _ (h v1 w1 hown hg)
end

theorem infoByte : (Tryd.prog.info? 5).map (fun i => (i.zero, i.size, i.bytes)) = some (some (.int .u8 0), 1, 1) := by kernel_rfl

set_option maxHeartbeats 400000 in
theorem copyBytes_any (v : Value) (xs : List Int) (W : World) (h : Rds W .u8 v xs) (h47 : xs.length ≤ 140737488355328) :
    Calls Tryd.prog 25 #[v] W fun e W' => ∃ v', e = .returned v' ∧ W'.ownsRow W.heap.size 5 1 v' xs.length (nums .u8 xs) ∧ Below W.heap.size W W' := by
  obtain ⟨A, c, rfl, hc, h0, hr⟩ := h
  go_enter Tryd.func25, Tryd.ntmps25
  go_wp2_with (at_builtin; refine print_append_row (w0 := W) W.heap.size rfl _ _ 30 5 .u8 1 rfl Tryd.underlying30 infoByte (by decide) (.slice none 0 0) [] xs A xs.length c rfl rfl (World.ownsRow_nil _ _ _ _) hr (Below.refl _ _) (Nat.le_refl _) (by simp; omega) ?_)
  intro v1 w1 ho1 hb1 _ _
  have HO := Lib.hid ho1
  have HB := Lib.hid hb1
  clear ho1 hb1
  go_wp2
  go_ret
  exact ⟨_, rfl, HO.out, HB.out⟩

end Go.Proofs.YtlagkfiafelnnaaDoor
