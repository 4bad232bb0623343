/- What is put, piece by piece, is there, piece by piece: plain arithmetic. -/
import Derived.Test.YtbpckacgdkikdaaBits
import Derived.Test.YtbpckacgdkikdaaPc
set_option linter.unusedVariables false
set_option linter.unusedSimpArgs false
namespace Go.Proofs.Ytbpckacgdkikdaa
open Bits

def alignL (al : Bool) (L : Nat) : Nat := if al then (L + 7) / 8 * 8 else L
def Pc.len (p : Pc) : Nat := (p.n % 33).toNat
theorem Pc.len_le (p : Pc) : p.len ≤ 32 := by unfold Pc.len; have := Int.emod_lt_of_pos p.n (show (0 : Int) < 33 by decide); omega
def bstep (s : Nat × Nat) (p : Pc) : Nat × Nat := (puts s.1 (alignL p.al s.2) p.v.toNat p.len, alignL p.al s.2 + p.len)
def brun (ps : List Pc) : Nat × Nat := ps.foldl bstep (0, 0)

theorem alignL_le (al : Bool) (L : Nat) : L ≤ alignL al L ∧ alignL al L ≤ L + 7 := by unfold alignL; split <;> omega

theorem bstep_lt {s : Nat × Nat} (h : s.1 < 2 ^ s.2) (p : Pc) : (bstep s p).1 < 2 ^ (bstep s p).2 :=
  puts_lt (Nat.lt_of_lt_of_le h (Nat.pow_le_pow_right (by decide) (alignL_le p.al s.2).1)) _ _

theorem bfold (ps : List Pc) : ∀ s : Nat × Nat, s.1 < 2 ^ s.2 → (ps.foldl bstep s).1 < 2 ^ (ps.foldl bstep s).2 ∧ s.2 ≤ (ps.foldl bstep s).2 ∧ (ps.foldl bstep s).1 % 2 ^ s.2 = s.1 := by
  induction ps with
  | nil => intro s h; exact ⟨h, Nat.le_refl _, Nat.mod_eq_of_lt h⟩
  | cons p ps ih =>
    intro s h
    obtain ⟨h1, h2, h3⟩ := ih (bstep s p) (bstep_lt h p)
    have hL := (alignL_le p.al s.2).1
    have hle : s.2 ≤ (bstep s p).2 := by show s.2 ≤ alignL p.al s.2 + p.len; omega
    refine ⟨h1, Nat.le_trans hle h2, ?_⟩
    show (ps.foldl bstep (bstep s p)).1 % 2 ^ s.2 = s.1
    have e : (bstep s p).1 % 2 ^ alignL p.al s.2 = s.1 := puts_mod (Nat.lt_of_lt_of_le h (Nat.pow_le_pow_right (by decide) hL)) _ _
    rw [← Nat.mod_mod_of_dvd _ (Nat.pow_dvd_pow 2 hle), h3, ← Nat.mod_mod_of_dvd _ (Nat.pow_dvd_pow 2 hL), e, Nat.mod_eq_of_lt h]

theorem brun_lt (ps : List Pc) : (brun ps).1 < 2 ^ (brun ps).2 := (bfold ps (0, 0) (by decide)).1
theorem brun_snoc (ps : List Pc) (p : Pc) : brun (ps ++ [p]) = bstep (brun ps) p := by unfold brun; rw [List.foldl_append]; rfl
theorem brun_take (ps : List Pc) (i : Nat) (h : i < ps.length) : brun (ps.take (i + 1)) = bstep (brun (ps.take i)) ps[i] := by
  rw [List.take_succ_eq_append_getElem h, brun_snoc]
theorem brun_part (ps : List Pc) (i : Nat) : (brun (ps.take i)).2 ≤ (brun ps).2 ∧ (brun ps).1 % 2 ^ (brun (ps.take i)).2 = (brun (ps.take i)).1 := by
  have := bfold (ps.drop i) (brun (ps.take i)) (brun_lt _)
  have e : (ps.drop i).foldl bstep (brun (ps.take i)) = brun ps := by unfold brun; rw [← List.foldl_append, List.take_append_drop]
  rw [e] at this
  exact this.2
theorem brun_small (ps : List Pc) : (brun ps).2 ≤ 39 * ps.length := by
  suffices ∀ s : Nat × Nat, (ps.foldl bstep s).2 ≤ s.2 + 39 * ps.length by unfold brun; simpa using this (0, 0)
  induction ps with
  | nil => intro s; simp
  | cons p ps ih =>
    intro s
    have h1 := ih (bstep s p)
    have h2 := (alignL_le p.al s.2).2
    have h3 := p.len_le
    have h4 : (bstep s p).2 = alignL p.al s.2 + p.len := rfl
    simp only [List.foldl_cons, List.length_cons]
    omega

/-- Where a piece begins. -/
def bplace (ps : List Pc) (i : Nat) : Nat := alignL (ps[i]?.getD ⟨0, 0, false⟩).al (brun (ps.take i)).2
theorem bplace_at (ps : List Pc) (i : Nat) (h : i < ps.length) : bplace ps i = alignL ps[i].al (brun (ps.take i)).2 := by simp [bplace, h]

theorem back_got (ps : List Pc) (i : Nat) (h : i < ps.length) : got (brun ps).1 (bplace ps i) ps[i].len = ps[i].v.toNat % 2 ^ ps[i].len ∧ bplace ps i + ps[i].len ≤ (brun ps).2 := by
  have h1 := brun_part ps (i + 1)
  rw [brun_take ps i h] at h1
  rw [bplace_at ps i h]
  have hs := brun_lt (ps.take i)
  generalize brun (ps.take i) = s at h1 hs ⊢
  obtain ⟨h2, h3⟩ := h1
  refine ⟨?_, h2⟩
  unfold got
  have e2 : (bstep s ps[i]).2 = alignL ps[i].al s.2 + ps[i].len := rfl
  have e1 : (bstep s ps[i]).1 / 2 ^ alignL ps[i].al s.2 = ps[i].v.toNat % 2 ^ ps[i].len := puts_div (Nat.lt_of_lt_of_le hs (Nat.pow_le_pow_right (by decide) (alignL_le _ _).1)) _ _
  rw [← e1, ← h3, e2, Nat.pow_add, Nat.mod_mul_right_div_self]

theorem back_rest (ps : List Pc) (n : Nat) : got (brun ps).1 (brun ps).2 n = 0 := by
  unfold got
  rw [Nat.div_eq_of_lt (brun_lt ps), Nat.zero_mod]

def bplaces (ps : List Pc) (i : Nat) : List Int := (List.range i).map fun j => (bplace ps j : Int)
theorem bplaces_succ (ps : List Pc) (i : Nat) : bplaces ps (i + 1) = bplaces ps i ++ [(bplace ps i : Int)] := by simp [bplaces, List.range_succ]
theorem bplaces_length (ps : List Pc) (i : Nat) : (bplaces ps i).length = i := by simp [bplaces]
theorem bplaces_at (ps : List Pc) (i j : Nat) (h : j < i) : (bplaces ps i)[j]? = some (bplace ps j : Int) := by simp [bplaces, h]

end Go.Proofs.Ytbpckacgdkikdaa
