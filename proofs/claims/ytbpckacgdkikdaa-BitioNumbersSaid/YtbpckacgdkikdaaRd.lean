/- The reader of bits: what each of its functions does, over the memory. -/
import Derived.Test.YtbpckacgdkikdaaWr2
set_option linter.unusedVariables false
set_option linter.unusedSimpArgs false
namespace Go.Proofs.Ytbpckacgdkikdaa
open Go.RowKit Go.Proofs.YtbpckacgdkikdaaW.PrintWords Bits

/-- A reader at block g: the bytes xs, so many bits read; v: its row. -/
def IsRd (W : World) (base g : Nat) (v : Value) (xs : List Int) (p : Nat) : Prop :=
  W.heap[g]? = some (.cells #[.bool true, v, .int .i64 (p : Int)] 59 (0, 0)) ∧ base ≤ g ∧ W.ownsRow base 5 1 v xs.length (xs.map (Value.int .u8)) ∧ (∀ x ∈ xs, 0 ≤ x ∧ x < 256) ∧ p ≤ 8 * xs.length ∧ xs.length ≤ 1000000

theorem IsRd.ne {W : World} {base g : Nat} {v : Value} {xs : List Int} {p : Nat} (h : IsRd W base g v xs p) : v.ownBlock ≠ some g := by
  intro e
  obtain ⟨cells, hc⟩ := own_typed h.2.2.1 g e
  rw [h.1] at hc
  simp at hc
theorem IsRd.lt {W : World} {base g : Nat} {v : Value} {xs : List Int} {p : Nat} (h : IsRd W base g v xs p) : g < W.heap.size := blk_lt h.1
theorem IsRd.fr {S : Nat → Prop} {W W1 : World} {base g : Nat} {v : Value} {xs : List Int} {p : Nat} (h : IsRd W base g v xs p) (hf : Fr S W W1) (hg : ¬ S g) (hv : ∀ k, v.ownBlock = some k → ¬ S k) : IsRd W1 base g v xs p :=
  ⟨hf.heap h.1 hg, h.2.1, hf.own h.2.2.1 hv, h.2.2.2⟩
theorem IsRd.below {W W1 : World} {base g : Nat} {v : Value} {xs : List Int} {p : Nat} (h : IsRd W base g v xs p) (hf : Below W.heap.size W W1) : IsRd W1 base g v xs p := h.fr (Fr.of_below hf (fun _ => False)) (fun h => h) (fun _ _ h => h)

/-! ### NewReader -/
set_option maxHeartbeats 800000 in
set_option maxRecDepth 100000 in
theorem newReader_any (v : Value) (xs : List Int) (W : World) (h : Rds W .u8 v xs) (hl : xs.length ≤ 1000000) (hx : ∀ x ∈ xs, 0 ≤ x ∧ x < 256) :
    Calls Try.prog 11 #[v] W fun e W' => ∃ g v', e = .returned (.pointer (some ⟨g, 0, none⟩)) ∧ IsRd W' W.heap.size g v' xs 0 ∧ Below W.heap.size W W' := by
  have HC := Lib.hid (clone_any v xs W h (by omega))
  have HX := Lib.hid hx
  clear hx
  obtain ⟨A, c, rfl, _⟩ := h
  go_enter Try.func11, Try.ntmps11
  go_wp2_with fail
  refine HC.out.mono ?_
  rintro e w1 ⟨v1, rfl, hown, hbel⟩
  obtain ⟨A1, c1, rfl⟩ := own_len hown
  have hs := hbel.size
  go_wp2
  go_ret
  exact ⟨w1.heap.size, _, rfl, ⟨heap_alloc_new w1 _, hs, hown.alloc _, HX.out, by omega, hl⟩, hbel.alloc hs _⟩

/-! ### Left, At -/
set_option maxHeartbeats 800000 in
set_option maxRecDepth 100000 in
theorem left_cells (g : Nat) (b : Bool) (A : Option Addr) (n c p : Nat) (W : World) (hn : n ≤ 1000000) (hp : p ≤ 8 * n)
    (hb : W.heap[g]? = some (.cells #[.bool b, .slice A n c, .int .i64 (p : Int)] 59 (0, 0))) :
    Calls Try.prog 12 #[.pointer (some ⟨g, 0, none⟩)] W fun e W' => e = .returned (.int .i64 (8 * (n : Int) - (p : Int))) ∧ ∃ d, W' = W.drewN d := by
  have c1 : W.cell? ⟨g, 1, none⟩ = some (.slice A n c) := (blk_cell hb 1).trans rfl
  have c2 : W.cell? ⟨g, 2, none⟩ = some (.int .i64 (p : Int)) := (blk_cell hb 2).trans rfl
  have HB := Lib.hid hb
  clear hb
  go_enter Try.func12, Try.ntmps12
  go_wp2
  go_quiet (fail)
  go_wp2
  go_ret
  exact ⟨rfl, _, rfl⟩

theorem left_any (base g : Nat) (v : Value) (xs : List Int) (p : Nat) (W : World) (h : IsRd W base g v xs p) :
    Calls Try.prog 12 #[.pointer (some ⟨g, 0, none⟩)] W fun e W' => e = .returned (.int .i64 (8 * (xs.length : Int) - (p : Int))) ∧ ∃ d, W' = W.drewN d := by
  obtain ⟨A, c, rfl⟩ := own_len h.2.2.1
  exact left_cells g true A xs.length c p W h.2.2.2.2.2 h.2.2.2.2.1 h.1

set_option maxHeartbeats 400000 in
theorem left_nil (W : World) : Calls Try.prog 12 #[.pointer none] W fun e W' => e = .returned (.int .i64 0) ∧ W = W' := by
  go_enter Try.func12, Try.ntmps12
  go_wp2
  go_ret
  exact ⟨rfl, rfl⟩

set_option maxHeartbeats 400000 in
theorem at_any (g : Nat) (p : Int) (W : World) (c2 : W.cell? ⟨g, 2, none⟩ = some (.int .i64 p)) :
    Calls Try.prog 31 #[.pointer (some ⟨g, 0, none⟩)] W fun e W' => e = .returned (.int .i64 p) ∧ W = W' := by
  go_enter Try.func31, Try.ntmps31
  go_wp2
  go_ret
  exact ⟨rfl, rfl⟩

set_option maxHeartbeats 400000 in
theorem at_nil (W : World) : Calls Try.prog 31 #[.pointer none] W fun e W' => e = .returned (.int .i64 0) ∧ W = W' := by
  go_enter Try.func31, Try.ntmps31
  go_wp2
  go_ret
  exact ⟨rfl, rfl⟩

/-! ### Get -/
set_option maxHeartbeats 800000 in
set_option maxRecDepth 100000 in
/-- What may not be got: nothing is done. -/
theorem get_no (base g : Nat) (v : Value) (xs : List Int) (p : Nat) (n : Int) (W : World) (h : IsRd W base g v xs p) (hn : n < 0 ∨ 32 < n ∨ 8 * (xs.length : Int) - p < n) :
    Calls Try.prog 14 #[.pointer (some ⟨g, 0, none⟩), .int .i64 n] W fun e W' => e = .returned (.tuple #[.int .u32 0, .bool false]) ∧ ∃ d, W' = W.drewN d := by
  have c0 : W.cell? ⟨g, 0, none⟩ = some (.bool true) := (blk_cell h.1 0).trans rfl
  have HL := Lib.hid (left_any base g v xs p W h)
  have HH := Lib.hid h
  have hp := h.2.2.2.2.1
  have hl := h.2.2.2.2.2
  clear h
  by_cases h1 : n < 0
  · have d1 : decide (n < 0) = true := decide_eq_true h1
    go_enter Try.func14, Try.ntmps14
    go_wp2
    go_ret2
    exact ⟨rfl, 0, rfl⟩
  · have d1 : decide (n < 0) = false := decide_eq_false h1
    by_cases h2 : 32 < n
    · have d2 : decide (32 < n) = true := decide_eq_true h2
      go_enter Try.func14, Try.ntmps14
      go_wp2
      go_ret2
      exact ⟨rfl, 0, rfl⟩
    · have d2 : decide (32 < n) = false := decide_eq_false h2
      have h3 : 8 * (xs.length : Int) - p < n := by omega
      have d3 : decide (8 * (xs.length : Int) - p < n) = true := decide_eq_true h3
      clear hn
      go_enter Try.func14, Try.ntmps14
      go_wp2_with fail
      refine HL.out.mono ?_
      rintro e w1 ⟨rfl, d, rfl⟩
      go_wp2
      go_ret2
      exact ⟨rfl, d, rfl⟩

set_option maxHeartbeats 400000 in
theorem get_nil (n : Int) (W : World) : Calls Try.prog 14 #[.pointer none, .int .i64 n] W fun e W' => e = .returned (.tuple #[.int .u32 0, .bool false]) ∧ W = W' := by
  go_enter Try.func14, Try.ntmps14
  go_wp2
  go_ret2
  exact ⟨rfl, rfl⟩
set_option maxHeartbeats 400000 in
theorem get_unmade (g : Nat) (n : Int) (W : World) (c0 : W.cell? ⟨g, 0, none⟩ = some (.bool false)) : Calls Try.prog 14 #[.pointer (some ⟨g, 0, none⟩), .int .i64 n] W fun e W' => e = .returned (.tuple #[.int .u32 0, .bool false]) ∧ W = W' := by
  go_enter Try.func14, Try.ntmps14
  go_wp2
  go_ret2
  exact ⟨rfl, rfl⟩

theorem and7_i64 (p : Nat) (h : p ≤ 100000000) : bits BinOp.and IntKind.i64 (p : Int) 7 = ((p % 8 : Nat) : Int) := by
  have := bits_mask .i64 63 (by decide) (fun n h0 h1 => by rw [IntKind.wrap_i64]; omega) 3 (by decide) (p : Int) (by omega) (by omega)
  simpa using this

theorem get_or {q j : Nat} {y : Int} (hq : q < 256 ^ j) (hj : j ≤ 4) (h0 : 0 ≤ y) (h1 : y < 256) :
    bits BinOp.or IntKind.u64 (q : Int) (IntKind.u64.wrap (y * 2 ^ (8 * j))) = ((q + 256 ^ j * y.toNat : Nat) : Int) := by
  obtain ⟨z, rfl⟩ := Int.eq_ofNat_of_zero_le h0
  have hb : (256 : Nat) ^ j ≤ 256 ^ 4 := Nat.pow_le_pow_right (by decide) hj
  have hz : z * 256 ^ j ≤ 255 * 256 ^ 4 := Nat.mul_le_mul (by omega) hb
  have e0 : ((z : Nat) : Int) * 2 ^ (8 * j) = ((z * 256 ^ j : Nat) : Int) := by rw [pow8]; simp
  have e2 : IntKind.u64.wrap (((z : Nat) : Int) * 2 ^ (8 * j)) = ((z * 256 ^ j : Nat) : Int) := by
    rw [e0, IntKind.wrap_u64]
    omega
  rw [e2, u64_or_nat q _ (by omega) (by omega), Nat.or_comm, nat_join (8 * j) _ _ (by rw [← pow8]; exact Nat.mul_mod_left _ _) (by rw [← pow8]; exact hq), Nat.add_comm, Nat.mul_comm]
  simp

theorem ofb_take_succ (xs : List Int) (f j : Nat) (h : f + j < xs.length) : ofb ((xs.drop f).take (j + 1)) = ofb ((xs.drop f).take j) + 256 ^ j * (xs[f + j]).toNat := by
  have hl : j < (xs.drop f).length := by simp; omega
  rw [List.take_succ_eq_append_getElem hl, ofb_append, List.length_take, Nat.min_eq_left (by omega)]
  simp [ofb]

theorem get_last {A M n r : Nat} (h1 : n ≤ 32) (hM : M < 18446744073709551616) (hA : A / 2 ^ r = M) :
    bits BinOp.and IntKind.u64 ((A : Int) / 2 ^ r) (IntKind.u64.wrap (IntKind.u64.wrap (2 ^ n) - 1)) % 4294967296 = ((M % 2 ^ n : Nat) : Int) := by
  have eA : (A : Int) / 2 ^ r = ((M : Nat) : Int) := by rw [← hA]; simp
  rw [eA]
  have hn : (2 : Nat) ^ n ≤ 2 ^ 32 := Nat.pow_le_pow_right (by decide) h1
  have hn0 : 0 < (2 : Nat) ^ n := Nat.two_pow_pos n
  have e1 : IntKind.u64.wrap (IntKind.u64.wrap (2 ^ n) - 1) = ((2 ^ n - 1 : Nat) : Int) := by
    have e0 : ((2 : Int) ^ n) = ((2 ^ n : Nat) : Int) := by simp
    rw [e0, IntKind.wrap_u64, IntKind.wrap_u64]
    omega
  have hy : M % 2 ^ n < 2 ^ n := Nat.mod_lt _ hn0
  rw [e1, u64_and_nat M _ hM (by omega), Nat.and_two_pow_sub_one_eq_mod]
  omega

set_option maxHeartbeats 1600000 in
set_option maxRecDepth 100000 in
theorem get_nat (base g : Nat) (v : Value) (xs : List Int) (p n : Nat) (W : World) (h : IsRd W base g v xs p) (h1 : n ≤ 32) (h2 : p + n ≤ 8 * xs.length) :
    Calls Try.prog 14 #[.pointer (some ⟨g, 0, none⟩), .int .i64 n] W fun e W' => e = .returned (.tuple #[.int .u32 ((got (ofb xs) p n : Nat) : Int), .bool true]) ∧ IsRd W' base g v xs (p + n) ∧ Fr (fun k => k = g) W W' := by
  have c0 : W.cell? ⟨g, 0, none⟩ = some (.bool true) := (blk_cell h.1 0).trans rfl
  have c1 : W.cell? ⟨g, 1, none⟩ = some v := (blk_cell h.1 1).trans rfl
  have c2 : W.cell? ⟨g, 2, none⟩ = some (.int .i64 (p : Int)) := (blk_cell h.1 2).trans rfl
  have f2 := blk_frozen h.1 2
  have HL := Lib.hid (left_any base g v xs p W h)
  have HH := Lib.hid h
  have hp := h.2.2.2.2.1
  have hl := h.2.2.2.2.2
  clear h
  have d1 : decide ((n : Int) < 0) = false := decide_eq_false (by omega)
  have d2 : decide (32 < (n : Int)) = false := decide_eq_false (by omega)
  have d3 : decide (8 * (xs.length : Int) - p < n) = false := decide_eq_false (by omega)
  go_enter Try.func14, Try.ntmps14
  go_wp2_with fail
  refine HL.out.mono ?_
  rintro e w1 ⟨rfl, d, rfl⟩
  go_wp2
  go_quiet (fail)
  go_wp2
  clear c0 d1 d2 d3
  go_loop [8, 49] (fun q k => ∃ (j : Nat), j ≤ (p + n + 7) / 8 - p / 8 ∧ k = .int .i64 (j : Int) ∧ q = .int .u64 ((ofb ((xs.drop (p / 8)).take j) : Nat) : Int)) (fun _ k => (p + n + 7) / 8 - p / 8 - (intOf k).toNat)
  case atStart => exact ⟨0, Nat.zero_le _, rfl, by simp [ofb]⟩
  case round =>
    obtain ⟨j, hj, rfl, rfl⟩ := hrel
    have hsp : (p + n + 7) / 8 - p / 8 ≤ 5 := by omega
    by_cases hlt : j < (p + n + 7) / 8 - p / 8
    · have hidx : p / 8 + j < xs.length := by omega
      obtain ⟨gg, cap, hv, _, _⟩ := HH.out.2.2.1.form (by omega)
      have hc := HH.out.2.2.1.cells (g := gg) (by rw [hv]; rfl) (p / 8 + j) (.int .u8 xs[p / 8 + j]) (by simp [hidx])
      rw [add_plain] at hc
      have hr := HH.out.2.2.2.1 xs[p / 8 + j] (List.getElem_mem hidx)
      obtain ⟨y, hy⟩ : ∃ y, y = xs[p / 8 + j] := ⟨_, rfl⟩
      rw [← hy] at hc hr
      obtain ⟨hr0, hr1⟩ := hr
      rw [hv] at c1
      have HV := Lib.hid hv
      have HY := Lib.hid hy
      clear hv hy
      have t1 : (j : Int) < ((p : Int) + n + 7) / 8 - p / 8 := by omega
      have t2 : (p : Int) / 8 + (j : Int) < xs.length := by omega
      go_wp2
      go_round
      case rel =>
        refine ⟨j + 1, by omega, by go_num, ?_⟩
        have hq : ofb ((xs.drop (p / 8)).take j) < 256 ^ j := by
          have := ofb_lt ((xs.drop (p / 8)).take j) (fun x hx => HH.out.2.2.2.1 x (List.mem_of_mem_drop (List.mem_of_mem_take hx)))
          rwa [List.length_take, List.length_drop, Nat.min_eq_left (by omega)] at this
        rw [get_or hq (by omega) hr0 hr1, ofb_take_succ xs (p / 8) j hidx, HY.out]
      case measure => simp [intOf]; omega
    · have t1 : ((p : Int) + n + 7) / 8 - p / 8 ≤ (j : Int) := by omega
      have hjc : j = (p + n + 7) / 8 - p / 8 := by omega
      have HJ := Lib.hid hjc
      clear hjc
      have e7 := and7_i64 p (by omega)
      have h7 : p % 8 < 8 := Nat.mod_lt _ (by decide)
      go_wp2
      go_ret2
      have hxr := HH.out.2.2.2.1
      have hA : ofb ((xs.drop (p / 8)).take j) < 256 ^ j := by
        have := ofb_lt ((xs.drop (p / 8)).take j) (fun x hx => hxr x (List.mem_of_mem_drop (List.mem_of_mem_take hx)))
        rwa [List.length_take, List.length_drop, Nat.min_eq_left (by have := HJ.out; omega)] at this
      have hj5 : (256 : Nat) ^ j ≤ 256 ^ 5 := Nat.pow_le_pow_right (by decide) (by omega)
      have hAd : ofb ((xs.drop (p / 8)).take j) / 2 ^ (p % 8) ≤ ofb ((xs.drop (p / 8)).take j) := Nat.div_le_self _ _
      have E := get_last (A := ofb ((xs.drop (p / 8)).take j)) (r := p % 8) h1 (by omega) rfl
      have hdr : ∀ x ∈ xs.drop (p / 8), 0 ≤ x ∧ x < 256 := fun x hx => hxr x (List.mem_of_mem_drop hx)
      rw [ofb_take _ hdr j (by rw [List.length_drop]; have := HJ.out; omega), ofb_drop _ hxr (p / 8) (by omega), got_bytes (ofb xs) p n j (by have := HJ.out; omega), ← ofb_drop _ hxr (p / 8) (by omega), ← ofb_take _ hdr j (by rw [List.length_drop]; have := HJ.out; omega)] at E
      refine ⟨by rw [← E]; rfl, ⟨?_, HH.out.2.1, ?_, hxr, h2, hl⟩, ?_⟩
      · exact (blk_set (blk_drewN HH.out.1 _) 2 _).trans (by simp)
      · refine own_move HH.out.2.2.1 (fun k hk => ?_)
        exact Below.heap_setCell _ _ _ _ (fun e => HH.out.ne (by rw [hk, e]))
      · exact Fr.set (S := fun k => k = g) (Fr.drewN (Fr.refl _ _) _) (.inl rfl) _

/-- What Get leaves. -/
theorem get_any (base g : Nat) (v : Value) (xs : List Int) (p : Nat) (n : Int) (W : World) (h : IsRd W base g v xs p) (h0 : 0 ≤ n) (h1 : n ≤ 32) (h2 : (p : Int) + n ≤ 8 * xs.length) :
    Calls Try.prog 14 #[.pointer (some ⟨g, 0, none⟩), .int .i64 n] W fun e W' => e = .returned (.tuple #[.int .u32 ((got (ofb xs) p n.toNat : Nat) : Int), .bool true]) ∧ IsRd W' base g v xs (p + n.toNat) ∧ Fr (fun k => k = g) W W' := by
  obtain ⟨n, rfl⟩ := Int.eq_ofNat_of_zero_le h0
  exact get_nat base g v xs p n W h (by omega) (by omega)

/-! ### Align -/
theorem and_hi (a : Nat) (h : a < 2 ^ 63) : a &&& 18446744073709551608 = a / 8 * 8 := by
  apply Nat.eq_of_testBit_eq
  intro i
  rw [Nat.testBit_and, show (18446744073709551608 : Nat) = (2 ^ 61 - 1) <<< 3 from by decide, show a / 8 * 8 = (a >>> 3) <<< 3 from by simp [Nat.shiftLeft_eq, Nat.shiftRight_eq_div_pow],
    Nat.testBit_shiftLeft, Nat.testBit_shiftLeft, Nat.testBit_two_pow_sub_one, Nat.testBit_shiftRight]
  by_cases h3 : 3 ≤ i
  · rw [show 3 + (i - 3) = i from by omega]
    by_cases h4 : i < 64
    · simp [h3, show i - 3 < 61 from by omega]
    · have : a.testBit i = false := Nat.testBit_lt_two_pow (Nat.lt_of_lt_of_le h (Nat.pow_le_pow_right (by decide) (by omega)))
      simp [this]
  · simp [h3]

theorem andNot7 (a : Nat) (h : a < 9223372036854775808) : bits BinOp.andNot IntKind.i64 (a : Int) 7 = ((a / 8 * 8 : Nat) : Int) := by
  show IntKind.i64.wrap ((BitVec.ofInt 64 (a : Int) &&& ~~~BitVec.ofInt 64 (7 : Int)).toNat : Int) = _
  rw [BitVec.toNat_and, BitVec.toNat_not, ofInt_u64 a (by omega), show (BitVec.ofInt 64 (7 : Int)).toNat = 7 from by decide, show 2 ^ 64 - 1 - 7 = 18446744073709551608 from by decide, and_hi a h, IntKind.wrap_i64]
  omega

set_option maxHeartbeats 800000 in
set_option maxRecDepth 100000 in
theorem ralign_any (base g : Nat) (v : Value) (xs : List Int) (p : Nat) (W : World) (h : IsRd W base g v xs p) :
    Calls Try.prog 28 #[.pointer (some ⟨g, 0, none⟩)] W fun e W' => e = .returned (.tuple #[]) ∧ IsRd W' base g v xs ((p + 7) / 8 * 8) ∧ Fr (fun k => k = g) W W' := by
  have c2 : W.cell? ⟨g, 2, none⟩ = some (.int .i64 (p : Int)) := (blk_cell h.1 2).trans rfl
  have f2 := blk_frozen h.1 2
  have hp := h.2.2.2.2.1
  have hl := h.2.2.2.2.2
  have HH := Lib.hid h
  clear h
  have e7 := andNot7 (p + 7) (by omega)
  have e8 : (((p + 7 : Nat) : Nat) : Int) = (p : Int) + 7 := by omega
  rw [e8] at e7
  clear e8
  obtain ⟨q, hq⟩ : ∃ q, q = (p + 7) / 8 * 8 := ⟨_, rfl⟩
  rw [← hq] at e7 ⊢
  have HQ := Lib.hid hq
  clear hq
  go_enter Try.func28, Try.ntmps28
  go_wp2
  go_end0
  refine ⟨rfl, ⟨?_, HH.out.2.1, ?_, HH.out.2.2.2.1, by have := HQ.out; omega, hl⟩, ?_⟩
  · exact (blk_set HH.out.1 2 _).trans (by simp)
  · refine own_move HH.out.2.2.1 (fun k hk => ?_)
    exact Below.heap_setCell _ _ _ _ (fun e => HH.out.ne (by rw [hk, e]))
  · exact Fr.set (S := fun k => k = g) (Fr.refl _ _) (.inl rfl) _

set_option maxHeartbeats 400000 in
theorem ralign_nil (W : World) : Calls Try.prog 28 #[.pointer none] W fun e W' => e = .returned (.tuple #[]) ∧ W = W' := by
  go_enter Try.func28, Try.ntmps28
  go_wp2
  go_end0
  exact ⟨rfl, rfl⟩
set_option maxHeartbeats 400000 in
set_option maxRecDepth 100000 in
theorem ralign_zero (g : Nat) (W : World) (c2 : W.cell? ⟨g, 2, none⟩ = some (.int .i64 0)) (f2 : W.frozen? ⟨g, 2, none⟩ = false) :
    Calls Try.prog 28 #[.pointer (some ⟨g, 0, none⟩)] W fun e W' => e = .returned (.tuple #[]) ∧ W' = W.setCell ⟨g, 2, none⟩ (.int .i64 0) := by
  have e7 : bits BinOp.andNot IntKind.i64 7 7 = 0 := by decide
  go_enter Try.func28, Try.ntmps28
  go_wp2
  go_end0
  exact ⟨rfl, rfl⟩

end Go.Proofs.Ytbpckacgdkikdaa
