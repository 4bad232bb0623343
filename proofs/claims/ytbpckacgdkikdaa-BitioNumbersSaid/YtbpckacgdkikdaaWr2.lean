/- The writer of bits, the rest of its functions; bytes.Clone. -/
import Derived.Test.YtbpckacgdkikdaaWr
import Derived.Deep.RegionHeld3
set_option linter.unusedVariables false
set_option linter.unusedSimpArgs false
namespace Go.Proofs.Ytbpckacgdkikdaa
open Go.RowKit Go.Proofs.YtbpckacgdkikdaaW.PrintWords Bits

/-! ### bytes.Clone -/
theorem cells_of_reads {W : World} {k : IntKind} {ad : Addr} {xs : List Int} (h : ReadsInt W k (some ad) xs.length xs) : ∀ j u, (xs.map (Value.int k))[j]? = some u → W.cell? (ad.add j) = some u := by
  intro j u hu
  have hj : j < xs.length := by have := (List.getElem?_eq_some_iff.1 hu).1; simpa using this
  obtain ⟨ad', e, hc⟩ := h.2.2 (by omega)
  obtain rfl := Option.some.inj e
  rw [hc j hj]
  rw [← hu]
  simp [List.getD_eq_getElem?_getD, List.getElem?_eq_getElem hj]

set_option maxHeartbeats 800000 in
set_option maxRecDepth 100000 in
theorem clone_any (v : Value) (xs : List Int) (W : World) (h : Rds W .u8 v xs) (hl : xs.length ≤ 140737488351232) :
    Calls Try.prog 33 #[v] W fun e W' => ∃ v', e = .returned v' ∧ W'.ownsRow W.heap.size 5 1 v' xs.length (xs.map (Value.int .u8)) ∧ Below W.heap.size W W' := by
  obtain ⟨i0, hi, hz0, hz1, hz2⟩ := info_parts Try.info5
  obtain ⟨A, c, rfl, hc, h0, hr⟩ := h
  have q1 := fun (w : World) (a : Option Addr) (n c : Nat) => Lib.run_eql_slice_nil (P := Try.prog) w 22 5 a n c 0 0 Try.underlying22
  cases A with
  | none =>
    have hc0 := h0 rfl
    have hx : xs = [] := List.eq_nil_of_length_eq_zero (by omega)
    subst hx
    subst hc0
    go_enter Try.func33, Try.ntmps33
    go_wp2
    go_ret
    exact ⟨_, rfl, World.ownsRow_nil _ _ _ _, Below.refl _ _⟩
  | some ad =>
    have hcells := cells_of_reads hr
    have hm := hr.2.1
    have HR := Lib.hid hr
    clear hr h0
    go_enter Try.func33, Try.ntmps33
    go_wp2_with (at_builtin; refine wpList_append_own _ rfl _ _ 22 rfl W.heap.size 5 i0 (.int .u8 0) 1 1 Try.underlying22 hi hz0 hz1 hz2 rfl (by decide) (.slice (some ⟨W.heap.size, 0, none⟩) 0 0) 0 [] rfl (World.ownsRow_made W #[] 0 (Nat.le_refl _) (by decide) rfl) ad xs.length c (xs.map (Value.int .u8)) rfl (by simp) ?c1 (ints_oneCell _ _) ?c3 ?c4 ?c5 ?_)
    case c1 =>
      intro j u hu
      have := hcells j u hu
      exact (World.cell?_of_block (Below.heap_alloc _ _ _ (World.block_lt_of_cell? W _ this))).trans this
    case c3 => simp only [maxLen]; omega
    case c4 => omega
    case c5 => simp
    · intro v' w1 hown hgrow _
      go_wp2
      go_ret
      refine ⟨_, rfl, by simpa using hown, Below.grown ((Below.refl _ _).alloc (Nat.le_refl _) _) hgrow (by simp) (fun k hk => ?_)⟩
      have : W.heap.size = k := by simpa [Value.ownBlock] using hk
      omega

/-! ### Len -/
set_option maxHeartbeats 800000 in
set_option maxRecDepth 100000 in
theorem len_cells (g : Nat) (b : Bool) (A : Option Addr) (n c m : Nat) (r : Int) (W : World) (hn : n ≤ 1000000000000) (hm : m < 8)
    (hb : W.heap[g]? = some (.cells #[.bool b, .slice A n c, .int .u64 r, .int .i64 (m : Int)] 56 (0, 0))) :
    Calls Try.prog 16 #[.pointer (some ⟨g, 0, none⟩)] W fun e W' => e = .returned (.int .i64 ((8 * n + m : Nat) : Int)) ∧ ∃ d, W' = W.drewN d := by
  have c1 : W.cell? ⟨g, 1, none⟩ = some (.slice A n c) := (blk_cell hb 1).trans rfl
  have c3 : W.cell? ⟨g, 3, none⟩ = some (.int .i64 (m : Int)) := (blk_cell hb 3).trans rfl
  have HB := Lib.hid hb
  clear hb
  go_enter Try.func16, Try.ntmps16
  go_wp2
  go_quiet (fail)
  go_wp2
  go_ret
  exact ⟨by simp, _, rfl⟩

set_option maxHeartbeats 800000 in
set_option maxRecDepth 100000 in
theorem len_nil (W : World) :
    Calls Try.prog 16 #[.pointer none] W fun e W' => e = .returned (.int .i64 0) ∧ W = W' := by
  go_enter Try.func16, Try.ntmps16
  go_wp2
  go_ret
  exact ⟨rfl, rfl⟩

theorem own_len {W : World} {base n : Nat} {e : TypeId} {size : Nat} {v : Value} {xs : List Value} (h : W.ownsRow base e size v n xs) : ∃ A c, v = .slice A n c := own_slice h

theorem len_any (base g : Nat) (v : Value) (N L : Nat) (W : World) (hL : L ≤ 8000000) (h : IsWr W base g v N L) :
    Calls Try.prog 16 #[.pointer (some ⟨g, 0, none⟩)] W fun e W' => e = .returned (.int .i64 (L : Int)) ∧ ∃ d, W' = W.drewN d := by
  obtain ⟨A, c, rfl⟩ := own_len h.2.2.2
  refine (len_cells g true A (L / 8) c (L % 8) _ W (by omega) (by omega) h.1).mono fun e W' ⟨he, hd⟩ => ⟨?_, hd⟩
  rw [he, show 8 * (L / 8) + L % 8 = L from by omega]

/-! ### Align -/
set_option maxHeartbeats 800000 in
set_option maxRecDepth 100000 in
theorem align_any (base g : Nat) (v : Value) (N L : Nat) (W : World) (hL : L ≤ 8000000) (h : IsWr W base g v N L) (hbase : base ≤ W.heap.size) :
    Calls Try.prog 19 #[.pointer (some ⟨g, 0, none⟩)] W fun e W' => e = .returned (.tuple #[]) ∧ PutPost base g v N ((L + 7) / 8 * 8) W W' := by
  have c3 : W.cell? ⟨g, 3, none⟩ = some (.int .i64 ((L % 8 : Nat) : Int)) := (blk_cell h.1 3).trans rfl
  have h8 : L % 8 < 8 := Nat.mod_lt _ (by decide)
  by_cases hz : L % 8 = 0
  · have hP : PutPost base g v N ((L + 7) / 8 * 8) W W := by
      rw [show (L + 7) / 8 * 8 = L from by omega]
      exact ⟨v, h, Fr.refl _ _, .inl rfl⟩
    have HP := Lib.hid hP
    clear hP
    have HH := Lib.hid h
    clear h
    rw [hz] at c3
    clear hz h8 hL
    generalize PutPost base g v N ((L + 7) / 8 * 8) W = P at *
    go_enter Try.func19, Try.ntmps19
    go_wp2
    go_end0
    exact ⟨rfl, HP.out⟩
  · have hput := put_any base g v N L 0 (8 - ((L % 8 : Nat) : Int)) W (by omega) (by omega) (by omega) (by omega) hL h hbase
    rw [show (8 - ((L % 8 : Nat) : Int)).toNat = 8 - L % 8 from by omega, show L + (8 - L % 8) = (L + 7) / 8 * 8 from by omega, show puts N L (0 : Int).toNat (8 - L % 8) = N from by simp [puts]] at hput
    have HP := Lib.hid hput
    clear hput
    have HH := Lib.hid h
    clear h
    clear hL
    have hz1 : 0 < L % 8 := by omega
    clear hz
    generalize PutPost base g v N ((L + 7) / 8 * 8) W = P at *
    generalize L % 8 = m at *
    have d1 : decide (0 < (m : Int)) = true := decide_eq_true (by omega)
    go_enter Try.func19, Try.ntmps19
    go_wp2_with fail
    refine HP.out.mono ?_
    rintro e w' ⟨rfl, hq⟩
    go_wp2
    go_end0
    exact ⟨rfl, hq⟩

set_option maxHeartbeats 800000 in
theorem align_nil (W : World) :
    Calls Try.prog 19 #[.pointer none] W fun e W' => e = .returned (.tuple #[]) ∧ W = W' := by
  go_enter Try.func19, Try.ntmps19
  go_wp2
  go_end0
  exact ⟨rfl, rfl⟩
set_option maxHeartbeats 800000 in
theorem align_unmade (g : Nat) (W : World) (c3 : W.cell? ⟨g, 3, none⟩ = some (.int .i64 0)) :
    Calls Try.prog 19 #[.pointer (some ⟨g, 0, none⟩)] W fun e W' => e = .returned (.tuple #[]) ∧ W = W' := by
  go_enter Try.func19, Try.ntmps19
  go_wp2
  go_end0
  exact ⟨rfl, rfl⟩

/-! ### Bytes -/
set_option maxHeartbeats 800000 in
theorem bytes_nil (W : World) :
    Calls Try.prog 18 #[.pointer none] W fun e W' => e = .returned (.slice none 0 0) ∧ W = W' := by
  go_enter Try.func18, Try.ntmps18
  go_wp2
  go_ret
  exact ⟨rfl, rfl⟩

def BytesPost (base : Nat) (xs : List Int) (W : World) (e : Ending) (W' : World) : Prop :=
  ∃ v', e = .returned v' ∧ W'.ownsRow base 5 1 v' xs.length (xs.map (Value.int .u8)) ∧ Below base W W'

set_option maxHeartbeats 1600000 in
set_option maxRecDepth 100000 in
theorem bytes_cells (g : Nat) (b : Bool) (v : Value) (m r : Nat) (xs : List Int) (W : World) (hl : xs.length ≤ 140737488351231) (hm : m < 8) (hv : Rds W .u8 v xs)
    (hb : W.heap[g]? = some (.cells #[.bool b, v, .int .u64 (r : Int), .int .i64 (m : Int)] 56 (0, 0))) :
    Calls Try.prog 18 #[.pointer (some ⟨g, 0, none⟩)] W (BytesPost W.heap.size (if m = 0 then xs else xs ++ [((r % 256 : Nat) : Int)]) W) := by
  obtain ⟨i0, hi, hz0, hz1, hz2⟩ := info_parts Try.info5
  have lg := blk_lt hb
  have c1 : W.cell? ⟨g, 1, none⟩ = some v := (blk_cell hb 1).trans rfl
  have c2 : W.cell? ⟨g, 2, none⟩ = some (.int .u64 (r : Int)) := (blk_cell hb 2).trans rfl
  have c3 : W.cell? ⟨g, 3, none⟩ = some (.int .i64 (m : Int)) := (blk_cell hb 3).trans rfl
  have HC := Lib.hid (clone_any v xs W hv (by omega))
  obtain ⟨A, c, rfl, _⟩ := hv
  clear hb
  by_cases hz : m = 0
  · subst hz
    have HS : Hid ((if (0 : Nat) = 0 then xs else xs ++ [((r % 256 : Nat) : Int)]) = xs) := if_pos rfl
    generalize (if (0 : Nat) = 0 then xs else xs ++ [((r % 256 : Nat) : Int)]) = ys at *
    go_enter Try.func18, Try.ntmps18
    go_wp2_with fail
    refine HC.out.mono ?_
    rintro e w1 ⟨v1, rfl, hown, hbel⟩
    have k3 := (hbel.cell (p := ⟨g, 3, none⟩) lg).trans c3
    go_wp2
    go_ret
    rw [HS.out]
    exact ⟨_, rfl, hown, hbel⟩
  · have HS : Hid ((if m = 0 then xs else xs ++ [((r % 256 : Nat) : Int)]) = xs ++ [((r % 256 : Nat) : Int)]) := if_neg hz
    generalize (if m = 0 then xs else xs ++ [((r % 256 : Nat) : Int)]) = ys at *
    have hmp : 0 < m := by omega
    have d1 : decide (0 < m) = true := decide_eq_true hmp
    clear hz
    go_enter Try.func18, Try.ntmps18
    go_wp2_with fail
    refine HC.out.mono ?_
    rintro e w1 ⟨v1, rfl, hown, hbel⟩
    have k2 := (hbel.cell (p := ⟨g, 2, none⟩) lg).trans c2
    have k3 := (hbel.cell (p := ⟨g, 3, none⟩) lg).trans c3
    have hs := hbel.size
    go_wp2_with (at_builtin; refine wpList_append_own _ rfl _ _ 22 rfl W.heap.size 5 i0 (.int .u8 0) 1 1 Try.underlying22 hi hz0 hz1 hz2 rfl (by decide) v1 xs.length (xs.map (Value.int .u8)) rfl (hown.alloc _) ⟨w1.heap.size, 0, none⟩ 1 1 [.int .u8 ((r : Int) % 256)] rfl rfl (cell_one_new _ _ _) (by simp [Value.oneCell']) (by simp only [maxLen]; omega) (by omega) (by simp; omega) ?_)
    intro v' w2 hown2 hgrow _
    go_wp2
    go_ret
    rw [HS.out]
    refine ⟨v', rfl, by simpa using hown2, Below.grown (hbel.alloc hs _) hgrow (by simp; omega) (fun k hk => own_base hown k hk)⟩

theorem bytes_any (base g : Nat) (v : Value) (N L : Nat) (W : World) (hL : L ≤ 8000000) (h : IsWr W base g v N L) :
    Calls Try.prog 18 #[.pointer (some ⟨g, 0, none⟩)] W (BytesPost W.heap.size (byts N L) W) := by
  have hr := rs_lt h.2.2.1
  have hl : (wh N L).length = L / 8 := leb_length _ _
  have e : byts N L = if L % 8 = 0 then wh N L else wh N L ++ [((rs N L % 256 : Nat) : Int)] := by
    rw [byts_eq h.2.2.1]
    split
    · rfl
    · rw [Nat.mod_eq_of_lt]
      exact Nat.lt_of_lt_of_le hr (Nat.pow_le_pow_right (by decide) (by omega : L % 8 ≤ 8))
  rw [e]
  exact bytes_cells g true v (L % 8) (rs N L) (wh N L) W (by omega) (Nat.mod_lt _ (by decide)) (own_rds h.2.2.2) h.1

end Go.Proofs.Ytbpckacgdkikdaa
