/- Rows of truths as numbers, plain: what the document's writer holds, and its bytes. No program is in sight. -/
import Derived.Test.YtbpckacgdkikdaaBits
set_option linter.unusedVariables false
set_option linter.unusedSimpArgs false
namespace Go.Proofs.Ytbpckacgdkikdaa.Bits

/-- The number that a row of truths says, the first the lowest. -/
def ofT : List Bool → Nat
  | [] => 0
  | b :: l => b.toNat + 2 * ofT l

theorem ofT_append (a b : List Bool) : ofT (a ++ b) = ofT a + 2 ^ a.length * ofT b := by
  induction a with
  | nil => simp [ofT]
  | cons x a ih => simp only [List.cons_append, ofT, ih, List.length_cons, Nat.pow_succ]; rw [Nat.mul_add, ← Nat.add_assoc, ← Nat.mul_assoc, Nat.mul_comm 2 (2 ^ a.length)]

theorem ofT_lt (l : List Bool) : ofT l < 2 ^ l.length := by
  induction l with
  | nil => simp [ofT]
  | cons x l ih =>
    simp only [ofT, List.length_cons, Nat.pow_succ]
    cases x <;> simp <;> omega

/-- So many truths of a number. -/
def tru (v n : Nat) : List Bool := (List.range n).map (fun k => decide (v / 2 ^ k % 2 = 1))
theorem tru_length (v n : Nat) : (tru v n).length = n := by simp [tru]
theorem tru_succ (v n : Nat) : tru v (n + 1) = tru v n ++ [decide (v / 2 ^ n % 2 = 1)] := by simp [tru, List.range_succ]
theorem ofT_tru (v n : Nat) : ofT (tru v n) = v % 2 ^ n := by
  induction n with
  | zero => simp [tru, ofT, Nat.mod_one]
  | succ n ih =>
    rw [tru_succ, ofT_append, ih, tru_length, Nat.pow_succ, Nat.mod_mul]
    congr 2
    have := Nat.mod_lt (v / 2 ^ n) (show 0 < 2 by decide)
    rcases Nat.lt_or_ge (v / 2 ^ n % 2) 1 with h | h
    · have e : v / 2 ^ n % 2 = 0 := by omega
      rw [e]; simp [ofT]
    · have e : v / 2 ^ n % 2 = 1 := by omega
      rw [e]; simp [ofT]
theorem ofT_puts (l : List Bool) (v n : Nat) : ofT (l ++ tru v n) = puts (ofT l) l.length v n := by
  rw [ofT_append, ofT_tru]
  unfold puts
  rw [Nat.mul_comm]
theorem ofT_rep (k : Nat) : ofT (List.replicate k false) = 0 := by
  induction k with
  | zero => rfl
  | succ k ih => simp [List.replicate_succ, ofT, ih]
theorem ofT_falses (l : List Bool) (k : Nat) : ofT (l ++ List.replicate k false) = ofT l := by
  rw [ofT_append, ofT_rep, Nat.mul_zero, Nat.add_zero]

theorem ofT_take_succ {l : List Bool} {i : Nat} (h : i < l.length) : ofT (l.take (i + 1)) = ofT (l.take i) + if l[i] then 2 ^ i else 0 := by
  rw [List.take_succ_eq_append_getElem h, ofT_append, List.length_take, Nat.min_eq_left (by omega)]
  cases l[i] <;> simp [ofT]
theorem ofT_take_lt (l : List Bool) {i : Nat} (h : i ≤ l.length) : ofT (l.take i) < 2 ^ i := by
  have := ofT_lt (l.take i)
  rwa [List.length_take, Nat.min_eq_left h] at this

theorem pow_split {i j : Nat} (h : 8 * j ≤ i) : 2 ^ i = 256 ^ j * 2 ^ (i - 8 * j) := by
  rw [pow8, ← Nat.pow_add]
  congr 1
  omega
theorem digit_lt {N i : Nat} (h : N < 2 ^ i) : N / 256 ^ (i / 8) < 2 ^ (i % 8) := by
  rw [Nat.div_lt_iff_lt_mul (Nat.pow_pos (by decide)), Nat.mul_comm]
  have := pow_split (i := i) (j := i / 8) (by omega)
  rw [show i - 8 * (i / 8) = i % 8 from by omega] at this
  omega
theorem leb_set {N i K : Nat} (h : N < 2 ^ i) (hk : i / 8 < K) : leb (N + 2 ^ i) K = (leb N K).set (i / 8) (((N / 256 ^ (i / 8) % 256 + 2 ^ (i % 8) : Nat)) : Int) := by
  have p8 : (2 : Nat) ^ (i % 8) ≤ 2 ^ 7 := Nat.pow_le_pow_right (by decide) (by omega)
  apply List.ext_getElem?
  intro j
  by_cases hj : j < K
  · rw [leb_getElem? _ _ _ hj]
    by_cases hji : j = i / 8
    · subst hji
      rw [List.getElem?_set_self (by rw [leb_length]; exact hj)]
      have hd := digit_lt h
      have e := pow_split (i := i) (j := i / 8) (by omega)
      rw [show i - 8 * (i / 8) = i % 8 from by omega] at e
      have e1 : (N + 2 ^ i) / 256 ^ (i / 8) = N / 256 ^ (i / 8) + 2 ^ (i % 8) := by rw [e, Nat.add_mul_div_left _ _ (Nat.pow_pos (by decide))]
      rw [e1]
      clear e1 e
      generalize N / 256 ^ (i / 8) = q at *
      generalize 2 ^ (i % 8) = t at *
      have e2 : (q + t) % 256 = q % 256 + t := by omega
      rw [e2]
    · rw [List.getElem?_set_ne (fun e => hji e.symm), leb_getElem? _ _ _ hj]
      congr 2
      rcases Nat.lt_or_ge j (i / 8) with hlt | hge
      · rw [pow_split (i := i) (j := j) (by omega), Nat.add_mul_div_left _ _ (Nat.pow_pos (by decide))]
        obtain ⟨s, hs⟩ : ∃ s, i - 8 * j = 8 + s := ⟨i - 8 * j - 8, by omega⟩
        rw [hs, Nat.pow_add, show (2 : Nat) ^ 8 = 256 from rfl, Nat.add_mul_mod_self_left]
      · have hp : 2 ^ (i + 1) ≤ 256 ^ j := by rw [pow8]; exact Nat.pow_le_pow_right (by decide) (by omega)
        rw [Nat.pow_succ] at hp
        rw [Nat.div_eq_of_lt (by omega), Nat.div_eq_of_lt (by omega)]
  · rw [List.getElem?_eq_none (by rw [leb_length]; omega), List.getElem?_eq_none (by rw [List.length_set, leb_length]; omega)]
theorem leb_zero (K : Nat) : leb 0 K = List.replicate K 0 := by
  induction K with
  | zero => rfl
  | succ K ih => rw [List.replicate_succ']; simp [leb, ih]

end Go.Proofs.Ytbpckacgdkikdaa.Bits
