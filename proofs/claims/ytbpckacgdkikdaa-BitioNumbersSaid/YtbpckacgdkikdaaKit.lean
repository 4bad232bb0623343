/- The small functions that the statements call beside the program's: SameBytes where the rows are equal, Pick. -/
import Derived.Test.YtbpckacgdkikdaaRd
set_option linter.unusedVariables false
set_option linter.unusedSimpArgs false
namespace Go.Proofs.Ytbpckacgdkikdaa
open Go.RowKit Go.Proofs.YtbpckacgdkikdaaW.PrintWords Bits

/-! ### SameBytes, of equal rows -/
set_option maxHeartbeats 800000 in
set_option maxRecDepth 100000 in
theorem same_yes (v v' : Value) (xs : List Int) (W : World) (h : Rds W .u8 v xs) (h' : Rds W .u8 v' xs) :
    Calls Try.prog 17 #[v, v'] W fun e W' => e = .returned (.bool true) ∧ ∃ d, W' = W.drewN d := by
  obtain ⟨A, c, rfl, hc, h0, hr⟩ := h
  obtain ⟨A', c', rfl, hc', h0', hr'⟩ := h'
  have hm := hr.2.1
  clear h0 h0' hc hc'
  have HR := Lib.hid hr
  have HR' := Lib.hid hr'
  clear hr hr'
  go_enter Try.func17, Try.ntmps17
  go_wp2
  go_loopw [5] (fun v5 wr => ∃ (j d : Nat), j ≤ xs.length ∧ v5 = .int .i64 (j : Int) ∧ wr = W.drewN d) (fun v5 _ => xs.length - (intOf v5).toNat)
  case atStart => exact ⟨0, 0, Nat.zero_le _, rfl, rfl⟩
  case round =>
    obtain ⟨j, d, hj, rfl, rfl⟩ := hrel
    by_cases hlt : j < xs.length
    · obtain ⟨ad, e1, hx⟩ := HR.out.at_ (j : Int) (by omega) (by omega)
      obtain ⟨ad', e2, hx'⟩ := HR'.out.at_ (j : Int) (by omega) (by omega)
      subst e1
      subst e2
      rw [Int.toNat_natCast] at hx hx'
      obtain ⟨y, hy⟩ : ∃ y, y = rd xs (j : Int) := ⟨_, rfl⟩
      rw [← hy] at hx hx'
      clear hy
      have t0 : (0 : Int) ≤ (j : Int) := by omega
      have t1 : (j : Int) < (xs.length : Int) := by omega
      have d0 : (y != y) = false := by simp
      go_wp2
      go_quiet (fail)
      go_wp2
      go_roundw
      case rel => exact ⟨j + 1, _, by omega, by go_num, rfl⟩
      case measure => simp [intOf]; omega
    · go_wp2
      go_ret
      exact ⟨rfl, d, rfl⟩

/-! ### Pick -/
theorem tmod_pick (x n : Int) (hn : 1 ≤ n) : (x.tmod n < 0 → x % n = x.tmod n + n) ∧ (¬ x.tmod n < 0 → x % n = x.tmod n) := by
  have h1 : x.tmod n = x % n - _ := Int.tmod_eq_emod
  have h2 := Int.emod_nonneg x (show n ≠ 0 by omega)
  have h3 := Int.emod_lt_of_pos x (show 0 < n by omega)
  split at h1 <;> constructor <;> intro h <;> omega

set_option maxHeartbeats 400000 in
theorem pick_any (x n : Int) (W : World) (h1 : 1 ≤ n) (h2 : n ≤ 4611686018427387904) :
    Calls Try.prog 13 #[.int .i64 x, .int .i64 n] W fun e W' => e = .returned (.int .i64 (x % n)) ∧ W = W' := by
  obtain ⟨p1, p2⟩ := tmod_pick x n h1
  have q3 := Int.emod_nonneg x (show n ≠ 0 by omega)
  have q4 := Int.emod_lt_of_pos x (show 0 < n by omega)
  have d1 : decide (n < 1) = false := decide_eq_false (by omega)
  have d2 : (n == 0) = false := by rw [beq_eq_false_iff_ne]; omega
  by_cases hs : x.tmod n < 0
  · have hP := p1 hs
    have ht : x.tmod n + n = x % n := hP.symm
    have b1 : -n ≤ x.tmod n := by omega
    have HT := Lib.hid ht
    clear hP ht p1 p2 q3 q4
    have d3 : decide (x.tmod n < 0) = true := decide_eq_true hs
    go_enter Try.func13, Try.ntmps13
    go_wp2
    go_ret
    exact ⟨by rw [← HT.out]; rfl, rfl⟩
  · have hP := Lib.hid (p2 hs)
    clear p1 p2 q3 q4
    have d3 : decide (x.tmod n < 0) = false := decide_eq_false hs
    go_enter Try.func13, Try.ntmps13
    go_wp2
    go_ret
    exact ⟨by rw [hP.out]; rfl, rfl⟩

/-! ### One call behind the other -/
theorem PutPost.next {B g : Nat} {v : Value} {N L N' L' : Nat} {W0 W W' : World} (hp : PutPost B g v N' L' W W') (hb : Below B W0 W) (hB : B ≤ W.heap.size) (h : IsWr W B g v N L) :
    ∃ v', IsWr W' B g v' N' L' ∧ Below B W0 W' ∧ B ≤ W'.heap.size := by
  obtain ⟨v', h1, h2, h3⟩ := hp
  exact ⟨v', h1, Fr.then_below hb h2 hB (fun k hk => by rcases hk with rfl | hk; exact h.2.1; exact own_base h.2.2.2 k hk), Nat.le_trans hB h2.size⟩
theorem IsRd.weaken {W : World} {base B g : Nat} {v : Value} {xs : List Int} {p : Nat} (h : IsRd W base g v xs p) (hB : B ≤ base) : IsRd W B g v xs p :=
  ⟨h.1, Nat.le_trans hB h.2.1, own_less h.2.2.1 hB, h.2.2.2⟩
theorem Fr.one {g : Nat} {W0 W W' : World} {B : Nat} (h : Fr (fun k => k = g) W W') (hb : Below B W0 W) (hB : B ≤ W.heap.size) (hg : B ≤ g) : Below B W0 W' ∧ B ≤ W'.heap.size :=
  ⟨Fr.then_below hb h hB (fun k hk => by rw [hk]; exact hg), Nat.le_trans hB h.size⟩

end Go.Proofs.Ytbpckacgdkikdaa
