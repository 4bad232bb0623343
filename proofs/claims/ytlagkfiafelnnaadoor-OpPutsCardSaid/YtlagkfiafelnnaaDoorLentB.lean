/- LentBytes, KeptBytes, OverBytes, SameBytes (of equal rows), Pick: what they do, over the memory. -/
import Derived.Test.YtlagkfiafelnnaaDoorProg
import Derived.Test.YtlagkfiafelnnaaDoorFr
import Derived.WalkKit
import Derived.KernelRfl
import Derived.RowKit3
import Derived.Deep.LoopGhost
import Derived.Deep.QuietTactic
import Derived.BigQuiet
import Derived.WideLaws
import Derived.WalkSpells
import Derived.Outline
import Derived.Lib.Hide
import Derived.Laws.BitsAllLaws
set_option linter.unusedVariables false
set_option linter.unusedSimpArgs false
namespace Go.Proofs.YtlagkfiafelnnaaDoor
open Go.RowKit Go.Proofs.YtlagkfiafelnnaaDoorW.PrintWords

theorem Tryd.infoB : (Tryd.prog.info? 5).map (fun i => (i.zero, i.size, i.bytes)) = some (some (.int .u8 0), 1, 1) := by kernel_rfl

/-! ### mark, markByte -/
def mk (k i : Int) : Int := 1000003 * (k + 7) + i
def mb (k i : Int) : Int := IntKind.u64.wrap (mk k i * 11400714819323198485) / 72057594037927936 % 256

set_option maxHeartbeats 400000 in
theorem mark_any (k i : Int) (W : World) (h0 : 0 ≤ k) (h1 : k ≤ 1000000) (h2 : 0 ≤ i) (h3 : i ≤ 4294967296000000) :
    Calls Tryd.prog 82 #[.int .i64 k, .int .i64 i] W fun e W' => e = .returned (.int .i64 (mk k i)) ∧ W = W' := by
  go_enter Tryd.func82, Tryd.ntmps82
  go_wp2
  go_ret
  exact ⟨rfl, rfl⟩

set_option maxHeartbeats 400000 in
theorem markByte_any (k i : Int) (W : World) (h0 : 0 ≤ k) (h1 : k ≤ 1000000) (h2 : 0 ≤ i) (h3 : i ≤ 4294967296000000) :
    Calls Tryd.prog 43 #[.int .i64 k, .int .i64 i] W fun e W' => e = .returned (.int .u8 (mb k i)) ∧ W = W' := by
  have m0 : 0 ≤ mk k i := by unfold mk; omega
  have m1 : mk k i ≤ 9223372036854775807 := by unfold mk; omega
  go_enter Tryd.func43, Tryd.ntmps43
  go_wp2_with fail
  refine (mark_any k i _ h0 h1 h2 h3).mono ?_
  rintro e w' ⟨rfl, rfl⟩
  generalize hm : mk k i = m at *
  go_wp2
  go_ret
  exact ⟨by unfold mb; rw [hm]; rfl, rfl⟩

/-! ### LentBytes, KeptBytes, OverBytes -/
/-- The marks behind a row that was lent. -/
def marks (j : Nat) : List Int := (List.range j).map fun (i : Nat) => mb 1 (i : Int)
theorem marks_succ (j : Nat) : marks (j + 1) = marks j ++ [mb 1 (j : Int)] := by simp [marks, List.range_succ]
theorem marks_length (j : Nat) : (marks j).length = j := by simp [marks]
theorem marks_at (j i : Nat) (h : i < j) : (marks j)[i]? = some (mb 1 (i : Int)) := by simp [marks, h]

/-- A row that was lent: xs, and the marks behind. -/
def IsLent (W : World) (base b : Nat) (xs : List Int) : Prop :=
  W.ownsRow base 5 1 (.slice (some ⟨b, 0, none⟩) (xs.length + 12) (xs.length + 12)) (xs.length + 12) ((xs ++ marks 12).map (Value.int .u8))

theorem IsLent.at_ {W : World} {base b : Nat} {xs : List Int} (h : IsLent W base b xs) {j : Nat} {x : Int} (hx : (xs ++ marks 12)[j]? = some x) : W.cell? ⟨b, j, none⟩ = some (.int .u8 x) := by
  have := World.ownsRow.cells h (g := b) rfl j (.int .u8 x) (by rw [List.getElem?_map, hx]; rfl)
  rwa [add_plain] at this
theorem IsLent.rds {W : World} {base b : Nat} {xs : List Int} (h : IsLent W base b xs) (hl : xs.length ≤ 140737488351232) : Rds W .u8 (.slice (some ⟨b, 0, none⟩) xs.length (xs.length + 12)) xs := by
  refine ⟨_, _, rfl, by omega, fun h => by simp at h, rfl, by omega, fun hp => ⟨_, rfl, fun j hj => ?_⟩⟩
  rw [add_plain]
  refine h.at_ ?_
  rw [List.getElem?_append_left hj]
  simp [List.getD_eq_getElem?_getD, List.getElem?_eq_getElem hj]
theorem IsLent.fr {S : Nat → Prop} {W W1 : World} {base b : Nat} {xs : List Int} (h : IsLent W base b xs) (hf : Fr S W W1) (hn : ¬ S b) : IsLent W1 base b xs :=
  hf.own h (fun k hk hs => by have : b = k := by simpa [Value.ownBlock] using hk
                              rw [this] at hn; exact hn hs)
theorem IsLent.ge {W : World} {base b : Nat} {xs : List Int} (h : IsLent W base b xs) : base ≤ b := own_base h b rfl
theorem IsLent.lt {W : World} {base b : Nat} {xs : List Int} (h : IsLent W base b xs) : b < W.heap.size := own_lt h b rfl

def LentRel (W : World) (B b : Nat) (xs : List Int) (v3 v4 : Value) (wr : World) : Prop :=
  ∃ i : Nat, i ≤ 12 ∧ v4 = .int .i64 (i : Int) ∧ v3 = .slice (some ⟨b, 0, none⟩) (xs.length + i) (xs.length + 12) ∧
    wr.ownsRow B 5 1 (.slice (some ⟨b, 0, none⟩) (xs.length + i) (xs.length + 12)) (xs.length + i) ((xs ++ marks i).map (Value.int .u8)) ∧ Below B W wr ∧ B ≤ wr.heap.size

set_option maxHeartbeats 1000000 in
set_option maxRecDepth 100000 in
theorem lent_any (v : Value) (xs : List Int) (W : World) (h : Rds W .u8 v xs) (hl : xs.length ≤ 140737488351000) :
    Calls Tryd.prog 18 #[v] W fun e W' => ∃ b, e = .returned (.slice (some ⟨b, 0, none⟩) xs.length (xs.length + 12)) ∧ IsLent W' W.heap.size b xs ∧ Below W.heap.size W W' := by
  obtain ⟨i0, hi, hz0, hz1, hz2⟩ := info_parts Tryd.infoB
  obtain ⟨A, c, rfl, hc, h0, hr⟩ := h
  have hm := hr.2.1
  have hA : A = none → xs.length = 0 ∧ c = 0 := fun e => ⟨by
    rcases Nat.eq_zero_or_pos xs.length with h1 | h1
    · exact h1
    · obtain ⟨ad, e2, _⟩ := hr.2.2 h1
      rw [e] at e2; simp at e2, h0 e⟩
  have hcells : ∀ ad, A = some ad → ∀ j u, (xs.map (Value.int .u8))[j]? = some u → W.cell? (ad.add j) = some u := by
    intro ad e j u hu
    have hj : j < xs.length := by have := (List.getElem?_eq_some_iff.1 hu).1; simpa using this
    obtain ⟨ad', e2, hcc⟩ := hr.2.2 (by omega)
    rw [e] at e2
    obtain rfl := Option.some.inj e2
    rw [hcc j hj, ← hu]
    simp [List.getD_eq_getElem?_getD, List.getElem?_eq_getElem hj]
  clear h0 hr
  go_enter Tryd.func18, Tryd.ntmps18
  go_wp2_with (at_make; refine wpList_make_own _ rfl _ _ 30 rfl W.heap.size 5 i0 (.int .u8 0) 1 Tryd.underlying30 hi hz0 hz1 _ _ _ (xs.length + 12) rfl rfl (by omega) (by rw [hz2]; omega) (by simp only [maxLen]; omega) (Nat.le_refl _) ?_)
  intro w1 ho1 hg1
  have f1 : Below W.heap.size W w1 := (Below.refl _ _).grown hg1 (Nat.le_refl _) (fun k hk => by simp at hk)
  go_wp2_with (at_builtin; refine wpList_append_fits_any _ rfl _ _ 30 rfl W.heap.size 5 i0 1 Tryd.underlying30 hi hz1 W.heap.size 0 (xs.length + 12) [] rfl ho1 A xs.length c (xs.map (Value.int .u8)) rfl (by simp) hA (fun ad e j u hu => pw_cell_below f1 (hcells ad e j u hu)) (ints_oneCell _ _) (by omega) ?_)
  intro w2 ho2 hg2
  have f2 : Below W.heap.size W w2 := f1.grown hg2 f1.size (fun k hk => Nat.le_of_eq (by simpa using hk))
  try simp only [Nat.zero_add, List.nil_append] at ho2
  go_wp2_with fail
  try rw [Nat.zero_add]
  go_loopw [3, 4] (fun v3 v4 wr => LentRel W W.heap.size W.heap.size xs v3 v4 wr) (fun _ v4 _ => 12 - (intOf v4).toNat)
  case atStart => exact ⟨0, by omega, rfl, rfl, by simpa [marks] using ho2, f2, f2.size⟩
  case round =>
    clear ho1 hg1 f1 ho2 hg2 f2 hcells hA
    obtain ⟨i, hi12, rfl, rfl, ho, bb, ss⟩ := hrel
    by_cases hlt : i < 12
    · go_wp2_with fail
      refine (markByte_any 1 (i : Int) _ (by omega) (by omega) (by omega) (by omega)).mono ?_
      rintro e w' ⟨rfl, rfl⟩
      go_wp2_with (at_builtin; refine wpList_append_fits _ rfl _ _ 30 rfl W.heap.size 5 i0 1 Tryd.underlying30 hi hz1 W.heap.size (xs.length + i) (xs.length + 12) ((xs ++ marks i).map (Value.int .u8)) rfl (ho.alloc _) ⟨wr.heap.size, 0, none⟩ 1 1 [.int .u8 (mb 1 (i : Int))] rfl rfl (cell_one_new _ _ _) (by simp [Value.oneCell']) (by omega) ?_)
      intro w2 ho2 hg2
      have bb2 : Below W.heap.size W w2 := (bb.alloc ss _).grown hg2 (by simp; omega) (fun k hk => Nat.le_of_eq (by simpa using hk))
      have ho2' : w2.ownsRow W.heap.size 5 1 (.slice (some ⟨W.heap.size, 0, none⟩) (xs.length + i + 1) (xs.length + 12)) (xs.length + i + 1) ((xs ++ marks (i + 1)).map (Value.int .u8)) := by
        rw [marks_succ]
        simpa using ho2
      clear ho2
      go_wp2
      go_roundw
      case rel => exact ⟨i + 1, by omega, by go_num, by simp [Nat.add_assoc], ho2', bb2, bb2.size⟩
      case measure => simp [intOf]; omega
    · have hie : i = 12 := by omega
      subst hie
      have t2 : (xs.length : Int) ≤ (xs.length : Int) + 12 := by omega
      go_wp2
      go_ret
      exact ⟨W.heap.size, by simp, ho, bb⟩


theorem cell_dr {W wr : World} {d : Nat} {a : Addr} {v : Value} (h : Hid (wr = W.drewN d)) (hc : W.cell? a = some v) : wr.cell? a = some v := by rw [h.out]; exact hc

set_option maxHeartbeats 1000000 in
set_option maxRecDepth 100000 in
theorem kept_any (B b : Nat) (v : Value) (xs : List Int) (W : World) (h : IsLent W B b xs) (hv : Rds W .u8 v xs) (hl : xs.length ≤ 140737488351000) :
    Calls Tryd.prog 20 #[.slice (some ⟨b, 0, none⟩) xs.length (xs.length + 12), v] W fun e W' => e = .returned (.bool true) ∧ ∃ d, W' = W.drewN d := by
  obtain ⟨A, c, rfl, hc, h0, hr⟩ := hv
  have HH := Lib.hid h
  have HR := Lib.hid hr
  clear h hr h0
  have t1 : (xs.length : Int) + 12 ≤ ((xs.length + 12 : Nat) : Int) := by omega
  go_enter Tryd.func20, Tryd.ntmps20
  go_wp2_with fail
  go_loopw [6] (fun v6 wr => ∃ (j d : Nat), j ≤ xs.length + 12 ∧ v6 = .int .i64 (j : Int) ∧ Hid (wr = W.drewN d)) (fun v6 _ => xs.length + 12 - (intOf v6).toNat)
  case atStart => exact ⟨0, 0, Nat.zero_le _, rfl, rfl⟩
  case round =>
    obtain ⟨j, d, hj, rfl, HW⟩ := hrel
    by_cases hlt : j < xs.length + 12
    · have z0 : (0 : Int) ≤ (j : Int) := by omega
      have z1 : (j : Int) < (xs.length : Int) + 12 := by omega
      by_cases hin : j < xs.length
      · obtain ⟨ad, e1, hx⟩ := HR.out.at_ (j : Int) (by omega) (by omega)
        subst e1
        rw [Int.toNat_natCast] at hx
        replace hx := cell_dr HW hx
        have hk := HH.out.at_ (j := j) (x := rd xs (j : Int)) (by rw [List.getElem?_append_left hin]; simp [rd, List.getD_eq_getElem?_getD, List.getElem?_eq_getElem hin])
        replace hk := cell_dr HW hk
        obtain ⟨y, hy⟩ : ∃ y, y = rd xs (j : Int) := ⟨_, rfl⟩
        rw [← hy] at hx hk
        clear hy
        have z2 : (j : Int) < (xs.length : Int) := by omega
        have d1 : decide (j < xs.length) = true := decide_eq_true hin
        have d2 : decide (xs.length ≤ j) = false := decide_eq_false (by omega)
        have d3 : (y == y) = true := by simp
        go_wp2_with fail
        go_quiet (fail)
        go_wp2
        go_roundw
        case rel => exact ⟨j + 1, d + nq, by omega, by go_num, by simp only [Hid]; rw [HW.out, World.drewN_drewN]⟩
        case measure => simp [intOf]; omega
      · have hk := HH.out.at_ (j := j) (x := mb 1 ((j - xs.length : Nat) : Int)) (by rw [List.getElem?_append_right (by omega)]; exact marks_at 12 _ (by omega))
        have ec : ((j - xs.length : Nat) : Int) = (j : Int) - (xs.length : Int) := by omega
        rw [ec] at hk
        replace hk := cell_dr HW hk
        have z2 : (xs.length : Int) ≤ (j : Int) := by omega
        have d1 : decide (j < xs.length) = false := decide_eq_false hin
        have d2 : decide (xs.length ≤ j) = true := decide_eq_true (by omega)
        have hM := fun n : Nat => (markByte_any 1 ((j : Int) - (xs.length : Int)) (wr.drewN n) (by omega) (by omega) (by omega) (by omega)).mono (fun _ _ h => (⟨h.1, h.2.symm⟩ : _ ∧ _))
        have HM := Lib.hid hM
        clear hM ec
        have d3 : (mb 1 ((j : Int) - (xs.length : Int)) == mb 1 ((j : Int) - (xs.length : Int))) = true := by simp
        go_wp2_with fail
        go_quiet ((go_at_call 43; exact Calls.quiet_of_same (HM.out _)))
        go_wp2
        go_roundw
        case rel => exact ⟨j + 1, d + nq, by omega, by go_num, by simp only [Hid]; rw [HW.out, World.drewN_drewN]⟩
        case measure => simp [intOf]; omega
    · go_wp2
      go_ret
      exact ⟨rfl, d, HW.out⟩

end Go.Proofs.YtlagkfiafelnnaaDoor
