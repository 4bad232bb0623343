/- The document's reader: what each of its functions does, over the memory. -/
import Derived.Test.YtbpckacgdkikdaaKit
set_option linter.unusedVariables false
set_option linter.unusedSimpArgs false
namespace Go.Proofs.Ytbpckacgdkikdaa
open Go.RowKit Go.Proofs.YtbpckacgdkikdaaW.PrintWords Bits

/-- The document's reader at block g. Its bytes are the slice v, which lies elsewhere. -/
def IsRf (W : World) (g : Nat) (v : Value) (p : Nat) : Prop := W.heap[g]? = some (.cells #[v, .int .i64 (p : Int)] 52 (0, 0))

set_option maxHeartbeats 800000 in
set_option maxRecDepth 100000 in
theorem rleft_any (g : Nat) (A : Option Addr) (n c p : Nat) (W : World) (hn : n ≤ 1000000) (hp : p ≤ 8 * n) (h : IsRf W g (.slice A n c) p) :
    Calls Try.prog 32 #[.pointer (some ⟨g, 0, none⟩)] W fun e W' => e = .returned (.int .i64 (8 * (n : Int) - (p : Int))) ∧ ∃ d, W' = W.drewN d := by
  have c0 : W.cell? ⟨g, 0, none⟩ = some (.slice A n c) := (blk_cell h 0).trans rfl
  have c1 : W.cell? ⟨g, 1, none⟩ = some (.int .i64 (p : Int)) := (blk_cell h 1).trans rfl
  clear h
  go_enter Try.func32, Try.ntmps32
  go_wp2
  go_quiet (fail)
  go_wp2
  go_ret
  exact ⟨rfl, _, rfl⟩

set_option maxHeartbeats 800000 in
set_option maxRecDepth 100000 in
theorem rfalign_any (g : Nat) (v : Value) (p : Nat) (W : World) (hp : p ≤ 100000000) (h : IsRf W g v p) :
    Calls Try.prog 29 #[.pointer (some ⟨g, 0, none⟩)] W fun e W' => e = .returned (.tuple #[]) ∧ IsRf W' g v ((p + 7) / 8 * 8) ∧ Fr (fun k => k = g) W W' := by
  have c1 : W.cell? ⟨g, 1, none⟩ = some (.int .i64 (p : Int)) := (blk_cell h 1).trans rfl
  have f1 := blk_frozen h 1
  have HH := Lib.hid h
  clear h
  go_enter Try.func29, Try.ntmps29
  go_wp2
  go_end0
  exact ⟨rfl, (blk_set HH.out 1 _).trans (by simp), Fr.set (S := fun k => k = g) (Fr.refl _ _) (.inl rfl) _⟩

theorem digit_at (xs : List Int) (h : ∀ x ∈ xs, 0 ≤ x ∧ x < 256) (j : Nat) (hj : j < xs.length) : xs[j] = ((ofb xs / 256 ^ j % 256 : Nat) : Int) := by
  have h1 := leb_getElem? (ofb xs) xs.length j hj
  have h2 : (leb (ofb xs) xs.length)[j]? = xs[j]? := by rw [leb_ofb xs h]
  rw [h2, List.getElem?_eq_getElem hj] at h1
  exact Option.some.inj h1

theorem got_succ (M p k : Nat) : got M p (k + 1) = got M p k + 2 ^ k * (got M (p + k) 1) := by
  unfold got
  rw [Nat.pow_succ, Nat.mod_mul, Nat.pow_add, Nat.div_div_eq_div_mul, Nat.pow_one]

theorem bit_at (xs : List Int) (h : ∀ x ∈ xs, 0 ≤ x ∧ x < 256) (i : Nat) (hi : i / 8 < xs.length) : xs[i / 8].toNat / 2 ^ (i % 8) % 2 = got (ofb xs) i 1 := by
  rw [digit_at xs h _ hi, Int.toNat_natCast]
  have := got_bytes (ofb xs) i 1 1 (by omega)
  simpa using this

theorem bit_test {y : Int} {r b : Nat} (h0 : 0 ≤ y) (h1 : y < 256) (hb : y.toNat / 2 ^ r % 2 = b) : (bits BinOp.and IntKind.u8 (y / 2 ^ r) 1 == 1) = decide (b = 1) := by
  obtain ⟨z, rfl⟩ := Int.eq_ofNat_of_zero_le h0
  have e : ((z : Nat) : Int) / 2 ^ r = ((z / 2 ^ r : Nat) : Int) := by simp
  have hz : z / 2 ^ r ≤ z := Nat.div_le_self _ _
  rw [e, show (1 : Int) = ((1 : Nat) : Int) from rfl, u8_and_nat _ _ (by omega) (by omega), nat_mask1]
  rw [Int.toNat_natCast] at hb
  rw [hb]
  by_cases h : b = 1 <;> simp [h]
  omega

theorem bit_or {q j : Nat} (hq : q < 2 ^ j) (hj : j < 32) : bits BinOp.or IntKind.u32 (q : Int) (2 ^ j % 4294967296) = ((q + 2 ^ j * 1 : Nat) : Int) := by
  have hb : (2 : Nat) ^ j ≤ 2 ^ 31 := Nat.pow_le_pow_right (by decide) (by omega)
  have e : (2 : Int) ^ j % 4294967296 = ((2 ^ j : Nat) : Int) := by
    have : ((2 : Int) ^ j) = ((2 ^ j : Nat) : Int) := by simp
    rw [this]; omega
  rw [e, u32_or_nat q _ (by omega) (by omega), Nat.or_comm, nat_join j _ _ (Nat.mod_self _) hq, Nat.add_comm, Nat.mul_one]

set_option maxHeartbeats 1600000 in
set_option maxRecDepth 100000 in
theorem rget_nat (g : Nat) (v : Value) (xs : List Int) (p n : Nat) (W : World) (h : IsRf W g v p) (hv : Rds W .u8 v xs) (hx : ∀ x ∈ xs, 0 ≤ x ∧ x < 256) (hl : xs.length ≤ 1000000) (hp : p ≤ 8 * xs.length) (h1 : n ≤ 32) (h2 : p + n ≤ 8 * xs.length) :
    Calls Try.prog 30 #[.pointer (some ⟨g, 0, none⟩), .int .i64 n] W fun e W' => e = .returned (.tuple #[.int .u32 ((got (ofb xs) p n : Nat) : Int), .bool true]) ∧ IsRf W' g v (p + n) ∧ Fr (fun k => k = g) W W' := by
  obtain ⟨A, c, rfl, hc, h0, hr⟩ := hv
  have HL := Lib.hid (rleft_any g A xs.length c p W hl hp h)
  have c0 : W.cell? ⟨g, 0, none⟩ = some (.slice A xs.length c) := (blk_cell h 0).trans rfl
  have c1 : W.cell? ⟨g, 1, none⟩ = some (.int .i64 (p : Int)) := (blk_cell h 1).trans rfl
  have f1 := blk_frozen h 1
  have HH := Lib.hid h
  have HR := Lib.hid hr
  have HX := Lib.hid hx
  clear h hr hx h0
  have d1 : decide ((n : Int) < 0) = false := decide_eq_false (by omega)
  have d2 : decide (32 < (n : Int)) = false := decide_eq_false (by omega)
  have d3 : decide (8 * (xs.length : Int) - p < n) = false := decide_eq_false (by omega)
  go_enter Try.func30, Try.ntmps30
  go_wp2_with fail
  refine HL.out.mono ?_
  rintro e w1 ⟨rfl, d, rfl⟩
  go_wp2_with fail
  clear d1 d2 d3
  go_loop [6, 7] (fun q k => ∃ (j : Nat), j ≤ n ∧ k = .int .i64 (j : Int) ∧ q = .int .u32 ((got (ofb xs) p j : Nat) : Int)) (fun _ k => n - (intOf k).toNat)
  case atStart => exact ⟨0, Nat.zero_le _, rfl, by simp [got, Nat.mod_one]⟩
  case round =>
    obtain ⟨j, hj, rfl, rfl⟩ := hrel
    by_cases hlt : j < n
    · have hidx : (p + j) / 8 < xs.length := by omega
      obtain ⟨ad, e1, hcx⟩ := HR.out.at_ (((p + j) / 8 : Nat) : Int) (by omega) (by omega)
      obtain rfl := e1
      rw [Int.toNat_natCast] at hcx
      have hrd : rd xs (((p + j) / 8 : Nat) : Int) = xs[(p + j) / 8] := by unfold rd; rw [Int.toNat_natCast, List.getD_eq_getElem?_getD, List.getElem?_eq_getElem hidx]; rfl
      rw [hrd] at hcx
      have hyr := HX.out _ (List.getElem_mem hidx)
      have hbit := bit_at xs HX.out (p + j) hidx
      obtain ⟨y, hy⟩ : ∃ y, y = xs[(p + j) / 8] := ⟨_, rfl⟩
      rw [← hy] at hcx hyr hbit
      clear hy hrd
      obtain ⟨hy0, hy1⟩ := hyr
      have ht := bit_test hy0 hy1 hbit
      have hbl : got (ofb xs) (p + j) 1 < 2 := got_lt _ _ 1
      have hs := Lib.hid (got_succ (ofb xs) p j)
      have hq := got_lt (ofb xs) p j
      have HQ := Lib.hid hq
      clear hbit hq
      have t1 : (j : Int) < (n : Int) := by omega
      have t2 : ((p : Int) + (j : Int)) / 8 < (xs.length : Int) := by omega
      have t3 : (0 : Int) ≤ ((p : Int) + (j : Int)) / 8 := by omega
      by_cases hb : got (ofb xs) (p + j) 1 = 1
      · have ht' : (bits BinOp.and IntKind.u8 (y / 2 ^ ((p + j) % 8)) 1 == 1) = true := by rw [ht, hb]; rfl
        have HB := Lib.hid hb
        clear ht hb
        go_wp2
        go_round
        case rel => exact ⟨j + 1, by omega, by go_num, by rw [bit_or HQ.out (by omega), hs.out, HB.out]⟩
        case measure => simp [intOf]; omega
      · have hb0 : got (ofb xs) (p + j) 1 = 0 := by omega
        have ht' : (bits BinOp.and IntKind.u8 (y / 2 ^ ((p + j) % 8)) 1 == 1) = false := by rw [ht, hb0]; rfl
        have HB := Lib.hid hb0
        clear ht hb hb0
        go_wp2
        go_round
        case rel => exact ⟨j + 1, by omega, by go_num, by rw [hs.out, HB.out, Nat.mul_zero, Nat.add_zero]⟩
        case measure => simp [intOf]; omega
    · have hje : j = n := by omega
      have t1 : ¬ (j : Int) < (n : Int) := by omega
      have HJ := Lib.hid hje
      clear hje
      go_wp2
      go_ret2
      refine ⟨by rw [← HJ.out]; rfl, ?_, ?_⟩
      · exact (blk_set (blk_drewN HH.out _) 1 _).trans (by simp)
      · exact Fr.set (S := fun k => k = g) (Fr.drewN (Fr.refl _ _) _) (.inl rfl) _

set_option maxHeartbeats 800000 in
set_option maxRecDepth 100000 in
theorem rget_no (g : Nat) (A : Option Addr) (m c p : Nat) (n : Int) (W : World) (h : IsRf W g (.slice A m c) p) (hl : m ≤ 1000000) (hp : p ≤ 8 * m) (hn : n < 0 ∨ 32 < n ∨ 8 * (m : Int) - p < n) :
    Calls Try.prog 30 #[.pointer (some ⟨g, 0, none⟩), .int .i64 n] W fun e W' => e = .returned (.tuple #[.int .u32 0, .bool false]) ∧ ∃ d, W' = W.drewN d := by
  have HL := Lib.hid (rleft_any g A m c p W hl hp h)
  clear h
  by_cases h1 : n < 0
  · have d1 : decide (n < 0) = true := decide_eq_true h1
    go_enter Try.func30, Try.ntmps30
    go_wp2
    go_ret2
    exact ⟨rfl, 0, rfl⟩
  · have d1 : decide (n < 0) = false := decide_eq_false h1
    by_cases h2 : 32 < n
    · have d2 : decide (32 < n) = true := decide_eq_true h2
      go_enter Try.func30, Try.ntmps30
      go_wp2
      go_ret2
      exact ⟨rfl, 0, rfl⟩
    · have d2 : decide (32 < n) = false := decide_eq_false h2
      have h3 : 8 * (m : Int) - p < n := by omega
      have d3 : decide (8 * (m : Int) - p < n) = true := decide_eq_true h3
      clear hn
      go_enter Try.func30, Try.ntmps30
      go_wp2_with fail
      refine HL.out.mono ?_
      rintro e w1 ⟨rfl, d, rfl⟩
      go_wp2
      go_ret2
      exact ⟨rfl, d, rfl⟩

theorem rget_any (g : Nat) (v : Value) (xs : List Int) (p : Nat) (n : Int) (W : World) (h : IsRf W g v p) (hv : Rds W .u8 v xs) (hx : ∀ x ∈ xs, 0 ≤ x ∧ x < 256) (hl : xs.length ≤ 1000000) (hp : p ≤ 8 * xs.length) (h0 : 0 ≤ n) (h1 : n ≤ 32) (h2 : (p : Int) + n ≤ 8 * xs.length) :
    Calls Try.prog 30 #[.pointer (some ⟨g, 0, none⟩), .int .i64 n] W fun e W' => e = .returned (.tuple #[.int .u32 ((got (ofb xs) p n.toNat : Nat) : Int), .bool true]) ∧ IsRf W' g v (p + n.toNat) ∧ Fr (fun k => k = g) W W' := by
  obtain ⟨n, rfl⟩ := Int.eq_ofNat_of_zero_le h0
  exact rget_nat g v xs p n W h hv hx hl hp (by omega) (by omega)

end Go.Proofs.Ytbpckacgdkikdaa
