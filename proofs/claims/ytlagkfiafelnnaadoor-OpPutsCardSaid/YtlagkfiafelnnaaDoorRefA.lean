/- The document's rows: within, Place, Slice, write. -/
import Derived.Test.YtlagkfiafelnnaaDoorWri
import Derived.Test.YtlagkfiafelnnaaDoorEqs
set_option linter.unusedVariables false
set_option linter.unusedSimpArgs false
namespace Go.Proofs.YtlagkfiafelnnaaDoor
open Go.RowKit Go.Proofs.YtlagkfiafelnnaaDoorW.PrintWords

theorem rwithin_any (n a b : Int) (W : World) : Calls Tryd.prog 86 #[.int .i64 n, .int .i64 a, .int .i64 b] W fun e W' => e = .returned (.bool (within n a b)) ∧ W = W' := by
  by_cases h1 : a ≤ n
  · by_cases h2 : n ≤ b
    · have d1 : decide (a ≤ n) = true := decide_eq_true h1
      have d2 : decide (n ≤ b) = true := decide_eq_true h2
      go_enter Tryd.func86, Tryd.ntmps86
      go_wp2
      go_ret
      exact ⟨by simp [within, h1, h2], rfl⟩
    · have d1 : decide (a ≤ n) = true := decide_eq_true h1
      have d2 : decide (n ≤ b) = false := decide_eq_false h2
      go_enter Tryd.func86, Tryd.ntmps86
      go_wp2
      go_ret
      exact ⟨by simp [within, h1, h2], rfl⟩
  · have d1 : decide (a ≤ n) = false := decide_eq_false h1
    go_enter Tryd.func86, Tryd.ntmps86
    go_wp2
    go_ret
    exact ⟨by simp [within]; omega, rfl⟩

set_option maxHeartbeats 1000000 in
theorem place_any (a s u r : Int) (W : World) : Calls Tryd.prog 56 #[.agg #[.int .i64 a, .int .i64 s, .int .i64 u, .int .i64 r], .bool false] W fun e W' =>
    e = .returned (.bool (within a 0 262144 && within s 1 1024 && within u 1 16 && decide (r = 0))) ∧ Below W.heap.size W W' := by
  go_enter Tryd.func56, Tryd.ntmps56
  go_upto_region 1 with fail
  generalize hW1 : World.alloc _ _ = W1
  have hb1 : W1.heap[W.heap.size]? = some (.cells #[.int .i64 a, .int .i64 s, .int .i64 u, .int .i64 r] 62 (0, 0)) := by rw [← hW1]; exact heap_alloc_new W _
  have bel : Below W.heap.size W W1 := by rw [← hW1]; exact (Below.refl _ _).alloc (Nat.le_refl _) _
  have k0 := blk_cell hb1 0
  have k1 := blk_cell hb1 1
  have k2 := blk_cell hb1 2
  have k3 := blk_cell hb1 3
  simp only [List.getElem?_toArray, List.getElem?_cons_zero, List.getElem?_cons_succ] at k0 k1 k2 k3
  have HB := Lib.hid bel
  clear hW1 hb1 bel
  rcases hA : within a 0 262144 with _ | _
  · go_wp2_with (go_at_call 86; refine (rwithin_any _ _ _ _).mono ?_; rintro e w' ⟨rfl, rfl⟩)
    go_ret
    exact ⟨by rw [hA]; rfl, HB.out⟩
  · rcases hC : within s 1 1024 with _ | _
    · go_wp2_with (go_at_call 86; refine (rwithin_any _ _ _ _).mono ?_; rintro e w' ⟨rfl, rfl⟩)
      go_ret
      exact ⟨by rw [hA, hC]; rfl, HB.out⟩
    · rcases hD : within u 1 16 with _ | _
      · go_wp2_with (go_at_call 86; refine (rwithin_any _ _ _ _).mono ?_; rintro e w' ⟨rfl, rfl⟩)
        go_ret
        exact ⟨by rw [hA, hC, hD]; rfl, HB.out⟩
      · go_wp2_with (go_at_call 86; refine (rwithin_any _ _ _ _).mono ?_; rintro e w' ⟨rfl, rfl⟩)
        go_ret
        exact ⟨by rw [hA, hC, hD]; by_cases hr : r = 0 <;> simp [hr], HB.out⟩

set_option maxHeartbeats 1000000 in
theorem slice_any (k : List Int) (hk : KeyOk k) (f m : Int) (W : World) : Calls Tryd.prog 57 #[.agg (k.map (Value.int .u8) ++ [Value.int .i64 f, Value.int .i64 m]).toArray] W fun e W' =>
    e = .returned (.bool (within f 0 15 && within m 1 255)) ∧ Below W.heap.size W W' := by
  obtain ⟨CS, hCS⟩ : ∃ CS : List Value, CS = k.map (Value.int .u8) ++ [.int .i64 f, .int .i64 m] := ⟨_, rfl⟩
  rw [← hCS]
  have e1 : CS[32]? = some (.int .i64 f) := by rw [hCS, List.getElem?_append_right (by rw [List.length_map, hk.1]; omega), List.length_map, hk.1]; rfl
  have e2 : CS[33]? = some (.int .i64 m) := by rw [hCS, List.getElem?_append_right (by rw [List.length_map, hk.1]; omega), List.length_map, hk.1]; rfl
  clear hCS
  go_enter Tryd.func57, Tryd.ntmps57
  go_upto_region 1 with fail
  generalize hW1 : World.alloc _ _ = W1
  have hb1 : W1.heap[W.heap.size]? = some (.cells CS.toArray 70 (0, 0)) := by rw [← hW1]; exact heap_alloc_new W _
  have bel : Below W.heap.size W W1 := by rw [← hW1]; exact (Below.refl _ _).alloc (Nat.le_refl _) _
  have k1 := blk_cell hb1 32
  have k2 := blk_cell hb1 33
  rw [List.getElem?_toArray, e1] at k1
  rw [List.getElem?_toArray, e2] at k2
  have HB := Lib.hid bel
  clear hW1 hb1 bel e1 e2
  rcases hA : within f 0 15 with _ | _
  · go_wp2_with (go_at_call 86; refine (rwithin_any _ _ _ _).mono ?_; rintro e w' ⟨rfl, rfl⟩)
    go_ret
    exact ⟨by rw [hA]; rfl, HB.out⟩
  · go_wp2_with (go_at_call 86; refine (rwithin_any _ _ _ _).mono ?_; rintro e w' ⟨rfl, rfl⟩)
    go_ret
    exact ⟨by rw [hA, Bool.true_and]; rfl, HB.out⟩
end Go.Proofs.YtlagkfiafelnnaaDoor
