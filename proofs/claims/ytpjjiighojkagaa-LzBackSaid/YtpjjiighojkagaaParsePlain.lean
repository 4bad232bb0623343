/- lz.Parse: the plain law. What its state is good for at each place; what its pieces say; how many they are where all bytes are one. -/
import Derived.Test.YtpjjiighojkagaaPut
import Derived.Test.YtpjjiighojkagaaLen
import Derived.Test.YtpjjiighojkagaaExpand
set_option linter.unusedVariables false
set_option linter.unusedSimpArgs false
namespace Go.Proofs.Ytpjjiighojkagaa
open Go.RowKit Go.Maps Go.WideMaps Go.Proofs.YtpjjiighojkagaaW.PrintWords

def same3 (bs : List Int) (q p : Nat) : Prop := ∀ j, j < 3 → bs.getD (q + j) 0 = bs.getD (p + j) 0
theorem same3.trans {bs : List Int} {a b c : Nat} (h : same3 bs a b) (k : same3 bs b c) : same3 bs a c := fun j hj => (h j hj).trans (k j hj)

structure PInv (bs : List Int) (p : Nat) (f : Int → Int → Int → Option Nat) (ah : List Int) : Prop where
  len : ah.length = bs.length
  sound : ∀ r q, r + 3 ≤ bs.length → at3 f bs r = some q → q < p ∧ same3 bs q r
  full : ∀ q, q < p → q + 3 ≤ bs.length → ∃ q', at3 f bs q = some q' ∧ q ≤ q'
  ahd : ∀ q, q < p → q + 3 ≤ bs.length → (ah.getD q 0 = -1 ∨ ∃ r : Nat, ah.getD q 0 = (r : Int) ∧ r < q ∧ same3 bs r q) ∧ (0 < q → same3 bs (q - 1) q → ah.getD q 0 = ((q - 1 : Nat) : Int))

theorem PInv.zero (bs : List Int) : PInv bs 0 (fun _ _ _ => none) (List.replicate bs.length 0) :=
  ⟨by simp, fun r q _ h => by simp [at3] at h, fun q h => absurd h (by omega), fun q h => absurd h (by omega)⟩

theorem at3_upd {f : Int → Int → Int → Option Nat} {bs : List Int} {p r : Nat} : at3 (upd f (bs.getD p 0) (bs.getD (p + 1) 0) (bs.getD (p + 2) 0) p) bs r = if bs.getD r 0 = bs.getD p 0 ∧ bs.getD (r + 1) 0 = bs.getD (p + 1) 0 ∧ bs.getD (r + 2) 0 = bs.getD (p + 2) 0 then some p else at3 f bs r := rfl
theorem same3_iff {bs : List Int} {r p : Nat} : same3 bs r p ↔ bs.getD r 0 = bs.getD p 0 ∧ bs.getD (r + 1) 0 = bs.getD (p + 1) 0 ∧ bs.getD (r + 2) 0 = bs.getD (p + 2) 0 := by
  constructor
  · intro h
    exact ⟨h 0 (by omega), h 1 (by omega), h 2 (by omega)⟩
  · rintro ⟨h0, h1, h2⟩ j hj
    match j, hj with
    | 0, _ => exact h0
    | 1, _ => exact h1
    | 2, _ => exact h2
theorem at3_same {f : Int → Int → Int → Option Nat} {bs : List Int} {r p : Nat} (h : same3 bs r p) : at3 f bs r = at3 f bs p := by
  obtain ⟨h0, h1, h2⟩ := same3_iff.1 h
  unfold at3
  rw [h0, h1, h2]

theorem PInv.put {bs : List Int} {p : Nat} {f : Int → Int → Int → Option Nat} {ah : List Int} (h : PInv bs p f ah) (hp : p < bs.length) : PInv bs (p + 1) (putF f bs p) (putA f bs ah p) := by
  by_cases h3 : p + 3 ≤ bs.length
  · have hF : putF f bs p = upd f (bs.getD p 0) (bs.getD (p + 1) 0) (bs.getD (p + 2) 0) p := if_pos h3
    have hA : putA f bs ah p = ah.set p (prevOf f bs p) := if_pos h3
    rw [hF, hA]
    refine ⟨by simp [h.len], fun r q hr hq => ?_, fun q hq hq3 => ?_, fun q hq hq3 => ?_⟩
    · rw [at3_upd] at hq
      split at hq
      · rename_i hs
        simp at hq
        subst hq
        exact ⟨by omega, fun j hj => ((same3_iff.2 hs) j hj).symm⟩
      · obtain ⟨h1, h2⟩ := h.sound r q hr hq
        exact ⟨by omega, h2⟩
    · rw [at3_upd]
      split
      · exact ⟨p, rfl, by omega⟩
      · rename_i hs
        rcases Nat.lt_or_ge q p with h4 | h4
        · exact h.full q h4 hq3
        · have : q = p := by omega
          subst this
          exact absurd ⟨rfl, rfl, rfl⟩ hs
    · rcases Nat.lt_or_ge q p with h4 | h4
      · have e : (ah.set p (prevOf f bs p)).getD q 0 = ah.getD q 0 := by
          rw [List.getD_eq_getElem?_getD, List.getD_eq_getElem?_getD, List.getElem?_set_ne (by omega)]
        rw [e]
        exact h.ahd q h4 hq3
      · have : q = p := by omega
        subst this
        have e : (ah.set q (prevOf f bs q)).getD q 0 = prevOf f bs q := by
          rw [List.getD_eq_getElem?_getD, List.getElem?_set_self (by rw [h.len]; exact hp)]
          rfl
        rw [e]
        unfold prevOf
        constructor
        · cases hx : at3 f bs q with
          | none => exact .inl rfl
          | some r =>
            obtain ⟨h5, h6⟩ := h.sound q r hq3 hx
            exact .inr ⟨r, rfl, h5, h6⟩
        · intro h0 hs
          obtain ⟨q', h5, h6⟩ := h.full (q - 1) (by omega) (by omega)
          rw [at3_same hs] at h5
          obtain ⟨h7, _⟩ := h.sound q q' hq3 h5
          rw [h5]
          show (q' : Int) = _
          rw [show q' = q - 1 from by omega]
  · have hF : putF f bs p = f := if_neg h3
    have hA : putA f bs ah p = ah := if_neg h3
    rw [hF, hA]
    refine ⟨h.len, fun r q hr hq => ?_, fun q hq hq3 => ?_, fun q hq hq3 => ?_⟩
    · obtain ⟨h1, h2⟩ := h.sound r q hr hq
      exact ⟨by omega, h2⟩
    · exact h.full q (by omega) hq3
    · exact h.ahd q (by omega) hq3

/-- A piece that may stand at place p. -/
def StepOK (bs : List Int) (p : Nat) (pc : Pie) : Prop :=
  (pc = ⟨bs.getD p 0, 0, 0⟩ ∨ ∃ q m : Nat, q < p ∧ 3 ≤ m ∧ LenIs bs q p m ∧ p - q ≤ 32768 ∧ pc = ⟨0, (m : Int), ((p - q : Nat) : Int)⟩)
theorem StepOK.len {bs : List Int} {p : Nat} {pc : Pie} (h : StepOK bs p pc) : 0 ≤ pc.len ∧ pc.len ≤ 258 ∧ (0 < pc.len → (p : Int) + pc.len ≤ bs.length) := by
  rcases h with rfl | ⟨q, m, _, _, hl, _, rfl⟩
  · exact ⟨by simp, by simp, fun h => by simp at h⟩
  · have := hl.top
    have := hl.fits
    refine ⟨by show (0 : Int) ≤ (m : Int); omega, by show (m : Int) ≤ 258; omega, fun _ => by show (p : Int) + (m : Int) ≤ _; omega⟩
def adv (pc : Pie) : Nat := max pc.len.toNat 1
def NearOK (bs : List Int) (p : Nat) (pc : Pie) : Prop := p + 3 ≤ bs.length → 0 < p → same3 bs (p - 1) p → ∀ m, LenIs bs (p - 1) p m → (m : Int) ≤ pc.len

theorem LenIs.three {bs : List Int} {q p m : Nat} (h : LenIs bs q p m) (hs : same3 bs q p) (hp : p + 3 ≤ bs.length) : 3 ≤ m := by
  rcases Nat.lt_or_ge m 3 with h3 | h3
  · exact absurd (hs m h3) (h.ends (by omega) (by omega))
  · exact h3

theorem LenIs.uniq {bs : List Int} {q p m m' : Nat} (h : LenIs bs q p m) (h' : LenIs bs q p m') : m' = m := by
  have h1 := h.top
  have h2 := h.fits
  have h3 := h'.top
  have h4 := h'.fits
  rcases Nat.lt_trichotomy m m' with h5 | h5 | h5
  · exact absurd (h'.same m h5) (h.ends (by omega) (by omega))
  · exact h5.symm
  · exact absurd (h.same m' h5) (h'.ends (by omega) (by omega))
theorem near_next {bs : List Int} {p q cnt m : Nat} {x l l' : Int} (hN : 0 < cnt → x = ((p - 1 : Nat) : Int) → ∀ m, LenIs bs (p - 1) p m → (m : Int) ≤ l) (hZ : cnt = 0 → (q : Int) = x) (hL : LenIs bs q p m) (h1 : l ≤ l') (h2 : (m : Int) ≤ l') :
    0 < cnt + 1 → x = ((p - 1 : Nat) : Int) → ∀ m, LenIs bs (p - 1) p m → (m : Int) ≤ l' := by
  intro _ hx m' hm'
  rcases Nat.eq_zero_or_pos cnt with hz | hz
  · have : q = p - 1 := by have := hZ hz; omega
    rw [← this] at hm'
    rw [hL.uniq hm']
    exact h2
  · exact Int.le_trans (hN hz hx m' hm') h1

inductive PS (bs : List Int) : List Pie → Nat → Prop
  | nil : PS bs [] 0
  | snoc {out p pc} : PS bs out p → p < bs.length → StepOK bs p pc → NearOK bs p pc → PS bs (out ++ [pc]) (p + adv pc)

theorem adv_le {bs : List Int} {p : Nat} {pc : Pie} (h : StepOK bs p pc) (hp : p < bs.length) : p + adv pc ≤ bs.length := by
  obtain ⟨h0, h1, h2⟩ := h.len
  unfold adv
  rcases Nat.lt_or_ge pc.len.toNat 1 with h3 | h3
  · rw [Nat.max_eq_right (by omega)]; omega
  · rw [Nat.max_eq_left h3]
    have := h2 (by omega)
    omega
theorem PS.le {bs : List Int} {out : List Pie} {p : Nat} (h : PS bs out p) : p ≤ bs.length ∧ out.length ≤ p := by
  induction h with
  | nil => simp
  | @snoc out p pc h hp hs hn ih =>
    refine ⟨adv_le hs hp, ?_⟩
    rw [List.length_append]
    have : 1 ≤ adv pc := Nat.le_max_right _ _
    simp only [List.length_cons, List.length_nil]
    omega
theorem PS.ok {bs : List Int} {out : List Pie} {p : Nat} (h : PS bs out p) (hb : ∀ x ∈ bs, Byte x) (h64 : bs.length ≤ 65536) : ∀ x ∈ out, x.ok := by
  induction h with
  | nil => simp
  | @snoc out p pc h hp hs hn ih =>
    intro x hx
    rcases List.mem_append.1 hx with hx | hx
    · exact ih x hx
    · simp at hx
      subst hx
      rcases hs with rfl | ⟨q, m, hq, hm, hl, hd, rfl⟩
      · have := hb (bs.getD p 0) (by rw [List.getD_eq_getElem?_getD, List.getElem?_eq_getElem hp]; exact List.getElem_mem hp)
        exact ⟨⟨this.1, this.2⟩, ⟨by show _ ≤ (0 : Int); omega, by show (0 : Int) ≤ _; omega⟩, by show _ ≤ (0 : Int); omega, by show (0 : Int) ≤ _; omega⟩
      · have := hl.top
        exact ⟨⟨by show (0 : Int) ≤ 0; omega, by show (0 : Int) < _; omega⟩, ⟨by show _ ≤ (m : Int); omega, by show (m : Int) ≤ _; omega⟩, by show _ ≤ ((p - q : Nat) : Int); omega, by show ((p - q : Nat) : Int) ≤ _; omega⟩

theorem take_succ_getD {bs : List Int} {k : Nat} (h : k < bs.length) : bs.take (k + 1) = bs.take k ++ [bs.getD k 0] := by
  rw [List.take_add_one, List.getElem?_eq_getElem h, List.getD_eq_getElem?_getD, List.getElem?_eq_getElem h]
  rfl
theorem copyN_take {base bs : List Int} {q p : Nat} (hqp : q < p) : ∀ m, p + m ≤ bs.length → (∀ j, j < m → bs.getD (q + j) 0 = bs.getD (p + j) 0) → copyN (base ++ bs.take p) (p - q) m = base ++ bs.take (p + m)
  | 0, _, _ => rfl
  | m + 1, h, hs => by
    have ih := copyN_take (base := base) hqp m (by omega) (fun j hj => hs j (by omega))
    show copyN _ _ m ++ _ = _
    rw [ih]
    have e : (base ++ bs.take (p + m)).length - (p - q) = base.length + (q + m) := by
      rw [List.length_append, List.length_take]
      omega
    have e2 : (base ++ bs.take (p + m)).getD (base.length + (q + m)) 0 = bs.getD (q + m) 0 := by
      rw [List.getD_eq_getElem?_getD, List.getElem?_append_right (by omega), Nat.add_sub_cancel_left, List.getElem?_take, if_pos (by omega), List.getD_eq_getElem?_getD]
    rw [e, e2, hs m (by omega), ← Nat.add_assoc, take_succ_getD (by omega), List.append_assoc]

theorem expStep_ok {base bs : List Int} {p : Nat} {pc : Pie} (h : StepOK bs p pc) (hp : p < bs.length) (h64 : base.length + bs.length ≤ 65536) : expStep (base ++ bs.take p) pc = some (base ++ bs.take (p + adv pc)) := by
  rcases h with rfl | ⟨q, m, hq, hm, hl, hd, rfl⟩
  · have e : expOne (base ++ bs.take p) ⟨bs.getD p 0, 0, 0⟩ = base ++ bs.take (p + 1) := by
      rw [take_succ_getD hp]
      simp [expOne, isLit]
    have e2 : adv ⟨bs.getD p 0, 0, 0⟩ = 1 := rfl
    unfold expStep
    rw [e, e2, if_pos (by simp [isLit]), if_neg (by rw [List.length_append, List.length_take]; omega)]
  · have htop := hl.top
    have hfit := hl.fits
    have hno : isLit ⟨0, (m : Int), ((p - q : Nat) : Int)⟩ = false := by
      simp only [isLit, decide_eq_false_iff_not]
      rintro ⟨h1, _⟩
      have h1' : (m : Int) = 0 := h1
      omega
    have hyes : isMat ⟨0, (m : Int), ((p - q : Nat) : Int)⟩ (base ++ bs.take p).length = true := by
      simp only [isMat, decide_eq_true_eq]
      rw [List.length_append, List.length_take]
      refine ⟨trivial, ?_, ?_, ?_, ?_, ?_⟩ <;> omega
    have e : expOne (base ++ bs.take p) ⟨0, (m : Int), ((p - q : Nat) : Int)⟩ = base ++ bs.take (p + m) := by
      unfold expOne
      rw [hno, if_neg (by simp)]
      exact copyN_take hq m hfit hl.same
    have e2 : adv ⟨0, (m : Int), ((p - q : Nat) : Int)⟩ = m := by
      show max ((m : Int)).toNat 1 = m
      rw [Int.toNat_natCast]
      omega
    unfold expStep
    rw [e, e2, if_pos (by rw [hyes]; simp), if_neg (by rw [List.length_append, List.length_take]; omega)]

theorem expFold_append (out : List Int) (ps qs : List Pie) : expFold out (ps ++ qs) = (expFold out ps).bind (fun o => expFold o qs) := by
  induction ps generalizing out with
  | nil => rfl
  | cons x ps ih =>
    show (expStep out x).bind _ = ((expStep out x).bind _).bind _
    cases expStep out x with
    | none => rfl
    | some o => exact ih o

theorem PS.says {bs base : List Int} {out : List Pie} {p : Nat} (h : PS bs out p) (h64 : base.length + bs.length ≤ 65536) : expFold base out = some (base ++ bs.take p) := by
  induction h with
  | nil => simp [expFold]
  | snoc h hp hs hn ih =>
    rw [expFold_append, ih]
    show expFold _ [_] = _
    show (expStep _ _).bind _ = _
    rw [expStep_ok hs hp h64]
    rfl

theorem getD_rep {v : Int} {n j : Nat} (h : j < n) : (List.replicate n v).getD j 0 = v := by
  rw [List.getD_eq_getElem?_getD, List.getElem?_replicate, if_pos h]
  rfl
set_option maxRecDepth 100000 in
/-- All bytes are one: how many pieces there are. -/
theorem PS.few {v : Int} {n : Nat} {out : List Pie} {p : Nat} (h : PS (List.replicate n v) out p) : out.length * 258 ≤ p + 257 + (if p + 3 ≤ n then 0 else 258 * (3 - (n - p))) := by
  have hl : (List.replicate n v).length = n := by simp
  induction h with
  | nil => simp
  | @snoc out p pc h hp hs hn ih =>
    have hle := h.le
    have hadv := adv_le hs hp
    rw [hl] at hp hadv hle
    rw [List.length_append, List.length_singleton, Nat.add_mul]
    by_cases h0 : p = 0
    · subst h0
      have e : out.length = 0 := by omega
      rcases hs with rfl | ⟨q, m, hq, _⟩
      · have e2 : adv ⟨(List.replicate n v).getD 0 0, 0, 0⟩ = 1 := rfl
        rw [e, e2]
        split <;> omega
      · omega
    · by_cases h3 : p + 3 ≤ n
      · rw [if_pos h3] at ih
        have hsame : same3 (List.replicate n v) (p - 1) p := fun j hj => by rw [getD_rep (by omega), getD_rep (by omega)]
        have hm : LenIs (List.replicate n v) (p - 1) p (min 258 (n - p)) := ⟨by omega, by rw [hl]; omega, fun j hj => by rw [getD_rep (by omega), getD_rep (by omega)], fun h1 h2 => by rw [hl] at h2; omega⟩
        have hge := hn (by rw [hl]; exact h3) (by omega) hsame _ hm
        obtain ⟨_, h258, hf⟩ := hs.len
        rw [hl] at hf
        have hf' := hf (by omega)
        have ha : adv pc = min 258 (n - p) := by
          unfold adv
          omega
        rw [ha]
        split <;> omega
      · rw [if_neg h3] at ih
        have ha : adv pc = 1 := by
          rcases hs with rfl | ⟨q, m, hq, hm3, hlm, _, rfl⟩
          · rfl
          · have := hlm.fits
            rw [hl] at this
            omega
        rw [ha, if_neg (by omega)]
        omega

end Go.Proofs.Ytpjjiighojkagaa
