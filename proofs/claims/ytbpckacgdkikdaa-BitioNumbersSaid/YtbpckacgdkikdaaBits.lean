/- Plain arithmetic behind rows of bits: a row of bits is a number and a length; its bytes are the number's digits to base 256, the lowest first. No program is in sight. -/
import Derived.Laws.BitsAllLaws
set_option linter.unusedVariables false
set_option linter.unusedSimpArgs false
namespace Go.Proofs.Ytbpckacgdkikdaa.Bits

/-- The first k digits to base 256, the lowest first. -/
def leb (N : Nat) : Nat → List Int
  | 0 => []
  | k + 1 => leb N k ++ [((N / 256 ^ k % 256 : Nat) : Int)]

theorem leb_length (N k : Nat) : (leb N k).length = k := by
  induction k with
  | zero => rfl
  | succ k ih => simp [leb, ih]

theorem leb_getElem? (N k i : Nat) (h : i < k) : (leb N k)[i]? = some ((N / 256 ^ i % 256 : Nat) : Int) := by
  induction k with
  | zero => omega
  | succ k ih =>
    simp only [leb]
    by_cases hi : i < k
    · rw [List.getElem?_append_left (by rw [leb_length]; exact hi), ih hi]
    · obtain rfl : i = k := by omega
      rw [List.getElem?_append_right (by rw [leb_length]; exact Nat.le_refl _), leb_length]
      simp

theorem leb_add (N a b : Nat) : leb N (a + b) = leb N a ++ leb (N / 256 ^ a) b := by
  induction b with
  | zero => simp [leb]
  | succ b ih =>
    rw [← Nat.add_assoc]
    simp only [leb]
    rw [ih, List.append_assoc, Nat.div_div_eq_div_mul, ← Nat.pow_add]

theorem digit_mod (N k i : Nat) (h : i < k) : N % 256 ^ k / 256 ^ i % 256 = N / 256 ^ i % 256 := by
  obtain ⟨s, rfl⟩ : ∃ s, k = i + (s + 1) := ⟨k - i - 1, by omega⟩
  rw [Nat.pow_add, Nat.mod_mul_right_div_self, Nat.pow_succ, Nat.mod_mul_left_mod]

theorem leb_congr {N M k : Nat} (h : N % 256 ^ k = M % 256 ^ k) : leb N k = leb M k := by
  apply List.ext_getElem?
  intro i
  by_cases hi : i < k
  · rw [leb_getElem? _ _ _ hi, leb_getElem? _ _ _ hi, ← digit_mod N k i hi, ← digit_mod M k i hi, h]
  · rw [List.getElem?_eq_none (by rw [leb_length]; omega), List.getElem?_eq_none (by rw [leb_length]; omega)]

theorem leb_range (N k : Nat) : ∀ x ∈ leb N k, 0 ≤ x ∧ x < 256 := by
  induction k with
  | zero => simp [leb]
  | succ k ih =>
    intro x hx
    simp only [leb, List.mem_append, List.mem_singleton] at hx
    rcases hx with hx | rfl
    · exact ih x hx
    · have := Nat.mod_lt (N / 256 ^ k) (show 0 < 256 by decide); omega

/-- The number that bytes say. -/
def ofb : List Int → Nat
  | [] => 0
  | b :: l => b.toNat + 256 * ofb l

theorem ofb_append (a b : List Int) : ofb (a ++ b) = ofb a + 256 ^ a.length * ofb b := by
  induction a with
  | nil => simp [ofb]
  | cons x a ih => simp only [List.cons_append, ofb, ih, List.length_cons, Nat.pow_succ]; rw [Nat.mul_add, ← Nat.add_assoc, ← Nat.mul_assoc, Nat.mul_comm 256 (256 ^ a.length)]

theorem ofb_lt (l : List Int) (h : ∀ x ∈ l, 0 ≤ x ∧ x < 256) : ofb l < 256 ^ l.length := by
  induction l with
  | nil => simp [ofb]
  | cons x l ih =>
    have h1 := h x (by simp)
    have h2 := ih (fun y hy => h y (by simp [hy]))
    simp only [ofb, List.length_cons, Nat.pow_succ]
    omega

theorem ofb_leb (N k : Nat) : ofb (leb N k) = N % 256 ^ k := by
  induction k with
  | zero => simp [leb, ofb, Nat.mod_one]
  | succ k ih =>
    simp only [leb, ofb_append, ih, leb_length, ofb, Nat.mul_zero, Nat.add_zero, Int.toNat_natCast]
    rw [Nat.pow_succ, Nat.mod_mul]

theorem ofb_take_drop (l : List Int) (f : Nat) (hf : f ≤ l.length) : ofb l = ofb (l.take f) + 256 ^ f * ofb (l.drop f) := by
  have h := ofb_append (l.take f) (l.drop f)
  rw [List.take_append_drop, List.length_take, Nat.min_eq_left hf] at h
  exact h

theorem ofb_drop (l : List Int) (h : ∀ x ∈ l, 0 ≤ x ∧ x < 256) (f : Nat) (hf : f ≤ l.length) : ofb (l.drop f) = ofb l / 256 ^ f := by
  have hlt := ofb_lt (l.take f) (fun x hx => h x (List.mem_of_mem_take hx))
  rw [List.length_take, Nat.min_eq_left hf] at hlt
  rw [ofb_take_drop l f hf, Nat.add_mul_div_left _ _ (Nat.pow_pos (by decide)), Nat.div_eq_of_lt hlt, Nat.zero_add]

theorem ofb_take (l : List Int) (h : ∀ x ∈ l, 0 ≤ x ∧ x < 256) (f : Nat) (hf : f ≤ l.length) : ofb (l.take f) = ofb l % 256 ^ f := by
  have hlt := ofb_lt (l.take f) (fun x hx => h x (List.mem_of_mem_take hx))
  rw [List.length_take, Nat.min_eq_left hf] at hlt
  rw [ofb_take_drop l f hf, Nat.add_mul_mod_self_left, Nat.mod_eq_of_lt hlt]

theorem leb_ofb (l : List Int) (h : ∀ x ∈ l, 0 ≤ x ∧ x < 256) : leb (ofb l) l.length = l := by
  induction l with
  | nil => rfl
  | cons x l ih =>
    have h1 := h x (by simp)
    have h2 := ih (fun y hy => h y (by simp [hy]))
    rw [List.length_cons, Nat.add_comm, leb_add]
    simp only [leb, ofb, List.nil_append, Nat.pow_zero, Nat.div_one, Nat.pow_one]
    have e1 : (x.toNat + 256 * ofb l) % 256 = x.toNat := by omega
    have e2 : (x.toNat + 256 * ofb l) / 256 = ofb l := by omega
    rw [e1, e2, h2]
    simp
    omega

theorem pow8 (k : Nat) : 256 ^ k = 2 ^ (8 * k) := by rw [Nat.pow_mul]

/-- So many bits from a place. -/
def got (M at_ n : Nat) : Nat := M / 2 ^ at_ % 2 ^ n

theorem got_lt (M a n : Nat) : got M a n < 2 ^ n := Nat.mod_lt _ (Nat.two_pow_pos n)

theorem got_bytes (M at_ n c : Nat) (h : at_ % 8 + n ≤ 8 * c) : M / 256 ^ (at_ / 8) % 256 ^ c / 2 ^ (at_ % 8) % 2 ^ n = got M at_ n := by
  unfold got
  obtain ⟨s, hs⟩ : ∃ s, 8 * c = at_ % 8 + s := ⟨8 * c - at_ % 8, by omega⟩
  rw [pow8 c, hs, Nat.pow_add, Nat.mod_mul_right_div_self, Nat.mod_mod_of_dvd _ (Nat.pow_dvd_pow 2 (by omega)), pow8, Nat.div_div_eq_div_mul, ← Nat.pow_add]
  congr 3
  omega

/-- What is put behind. -/
def puts (N L v n : Nat) : Nat := N + v % 2 ^ n * 2 ^ L

theorem puts_lt {N L : Nat} (h : N < 2 ^ L) (v n : Nat) : puts N L v n < 2 ^ (L + n) := by
  unfold puts
  have h1 := Nat.mod_lt v (Nat.two_pow_pos n)
  have h2 : (v % 2 ^ n + 1) * 2 ^ L ≤ 2 ^ n * 2 ^ L := Nat.mul_le_mul_right _ h1
  rw [Nat.pow_add, Nat.mul_comm (2 ^ L)]
  rw [Nat.add_mul] at h2
  omega

theorem puts_mod {N L : Nat} (h : N < 2 ^ L) (v n : Nat) : puts N L v n % 2 ^ L = N := by
  unfold puts
  rw [Nat.add_mul_mod_self_right, Nat.mod_eq_of_lt h]

theorem puts_div {N L : Nat} (h : N < 2 ^ L) (v n : Nat) : puts N L v n / 2 ^ L = v % 2 ^ n := by
  unfold puts
  rw [Nat.add_mul_div_right _ _ (Nat.two_pow_pos L), Nat.div_eq_of_lt h, Nat.zero_add]

/-- The whole bytes, the rest. -/
def wh (N L : Nat) : List Int := leb N (L / 8)
def rs (N L : Nat) : Nat := N / 2 ^ (8 * (L / 8))

theorem rs_lt {N L : Nat} (h : N < 2 ^ L) : rs N L < 2 ^ (L % 8) := by
  unfold rs
  rw [Nat.div_lt_iff_lt_mul (Nat.two_pow_pos _), ← Nat.pow_add]
  rwa [show L % 8 + 8 * (L / 8) = L from by omega]

/-- The rest with the new bits above it: before the whole bytes are taken off. -/
theorem rs_puts {N L : Nat} (h : N < 2 ^ L) (v n : Nat) : puts N L v n / 2 ^ (8 * (L / 8)) = rs N L + v % 2 ^ n * 2 ^ (L % 8) := by
  unfold puts rs
  have e : 2 ^ L = 2 ^ (L % 8) * 2 ^ (8 * (L / 8)) := by rw [← Nat.pow_add]; congr 1; omega
  rw [e, ← Nat.mul_assoc, Nat.add_mul_div_right _ _ (Nat.two_pow_pos _)]

theorem wh_puts {N L : Nat} (h : N < 2 ^ L) (v n : Nat) : wh (puts N L v n) (L + n) = wh N L ++ leb (rs N L + v % 2 ^ n * 2 ^ (L % 8)) ((L % 8 + n) / 8) := by
  unfold wh
  rw [show (L + n) / 8 = L / 8 + (L % 8 + n) / 8 from by omega, leb_add, pow8, rs_puts h]
  congr 1
  apply leb_congr
  rw [pow8]
  have e : L = 8 * (L / 8) + L % 8 := by omega
  have hd : 2 ^ (8 * (L / 8)) ∣ 2 ^ L := Nat.pow_dvd_pow 2 (by omega)
  unfold puts
  obtain ⟨c, hc⟩ := hd
  rw [hc, show v % 2 ^ n * (2 ^ (8 * (L / 8)) * c) = 2 ^ (8 * (L / 8)) * (v % 2 ^ n * c) from by rw [Nat.mul_left_comm], Nat.add_mul_mod_self_left]

theorem rs_puts_end {N L : Nat} (h : N < 2 ^ L) (v n : Nat) : rs (puts N L v n) (L + n) = (rs N L + v % 2 ^ n * 2 ^ (L % 8)) / 256 ^ ((L % 8 + n) / 8) := by
  rw [← rs_puts h, pow8, Nat.div_div_eq_div_mul, ← Nat.pow_add]
  unfold rs
  congr 2
  omega

/-- All bytes: the whole ones, and one more for what is left. -/
def byts (N L : Nat) : List Int := leb N ((L + 7) / 8)

theorem byts_eq {N L : Nat} (h : N < 2 ^ L) : byts N L = if L % 8 = 0 then wh N L else wh N L ++ [((rs N L : Nat) : Int)] := by
  unfold byts wh
  have hr := rs_lt h
  split
  · rw [show (L + 7) / 8 = L / 8 from by omega]
  · rw [show (L + 7) / 8 = L / 8 + 1 from by omega]
    simp only [leb]
    have : rs N L < 256 := Nat.lt_of_lt_of_le hr (by calc 2 ^ (L % 8) ≤ 2 ^ 8 := Nat.pow_le_pow_right (by decide) (by omega)
                                                     _ = 256 := rfl)
    rw [pow8]
    unfold rs at this ⊢
    rw [Nat.mod_eq_of_lt this]

theorem ofb_byts {N L : Nat} (h : N < 2 ^ L) : ofb (byts N L) = N := by
  unfold byts
  rw [ofb_leb, Nat.mod_eq_of_lt]
  rw [pow8]
  exact Nat.lt_of_lt_of_le h (Nat.pow_le_pow_right (by decide) (by omega))

end Go.Proofs.Ytbpckacgdkikdaa.Bits
