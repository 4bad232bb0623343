/- lz.Parse as a function of the bytes: which piece stands at each place is told by the bytes alone. Plain. -/
import Derived.Test.YtpjjiighojkagaaParsePlain
set_option linter.unusedVariables false
set_option linter.unusedSimpArgs false
namespace Go.Proofs.Ytpjjiighojkagaa
open Go.RowKit Go.Maps Go.WideMaps Go.Proofs.YtpjjiighojkagaaW.PrintWords

/-- The look for a match at place p: where it looks next, how often it has looked, the best piece so far. -/
inductive Scan (bs ah : List Int) (p : Nat) : Int → Nat → Pie → Prop
  | zero : Scan bs ah p (ah.getD p 0) 0 ⟨bs.getD p 0, 0, 0⟩
  | succ {q cnt m : Nat} {pc : Pie} : Scan bs ah p (q : Int) cnt pc → (p : Int) - (q : Int) ≤ 32768 → cnt < 24 → LenIs bs q p m →
      Scan bs ah p (ah.getD q 0) (cnt + 1) (if pc.len < (m : Int) then ⟨0, (m : Int), ((p - q : Nat) : Int)⟩ else pc)
def Stop (p : Nat) (y : Int) (cnt : Nat) : Prop := y < 0 ∨ 32768 < (p : Int) - y ∨ 24 ≤ cnt
def Best (bs ah : List Int) (p : Nat) (pc : Pie) : Prop :=
  (p + 3 ≤ bs.length → ∃ y cnt, Scan bs ah p y cnt pc ∧ Stop p y cnt) ∧ (¬ p + 3 ≤ bs.length → pc = ⟨bs.getD p 0, 0, 0⟩)

theorem Scan.uniq {bs ah : List Int} {p : Nat} : ∀ {c : Nat} {y y' : Int} {pc pc' : Pie}, Scan bs ah p y c pc → Scan bs ah p y' c pc' → y = y' ∧ pc = pc'
  | 0, _, _, _, _, h, h' => by cases h; cases h'; exact ⟨rfl, rfl⟩
  | c + 1, _, _, _, _, h, h' => by
    cases h with
    | succ h1 h2 h3 h4 =>
      cases h' with
      | succ k1 k2 k3 k4 =>
        obtain ⟨e1, rfl⟩ := Scan.uniq h1 k1
        obtain rfl := Int.ofNat.inj e1
        rw [h4.uniq k4]
        exact ⟨rfl, rfl⟩
theorem Scan.pre {bs ah : List Int} {p : Nat} : ∀ {n : Nat} {y : Int} {pc : Pie}, Scan bs ah p y n pc → ∀ c, c < n → ∃ y' pc', Scan bs ah p y' c pc' ∧ ¬ Stop p y' c
  | 0, _, _, _, c, hc => absurd hc (by omega)
  | n + 1, _, _, h, c, hc => by
    cases h with
    | succ h1 h2 h3 h4 =>
      by_cases e : c = n
      · subst e
        exact ⟨_, _, h1, fun hs => by rcases hs with hs | hs | hs <;> omega⟩
      · exact Scan.pre h1 c (by omega)
theorem Best.uniq {bs ah : List Int} {p : Nat} {pc pc' : Pie} (h : Best bs ah p pc) (h' : Best bs ah p pc') : pc = pc' := by
  by_cases h3 : p + 3 ≤ bs.length
  · obtain ⟨y, c, s1, t1⟩ := h.1 h3
    obtain ⟨y', c', s2, t2⟩ := h'.1 h3
    rcases Nat.lt_trichotomy c c' with hc | rfl | hc
    · obtain ⟨y2, pc2, s3, t3⟩ := s2.pre c hc
      obtain ⟨rfl, _⟩ := s1.uniq s3
      exact absurd t1 t3
    · exact (s1.uniq s2).2
    · obtain ⟨y2, pc2, s3, t3⟩ := s1.pre c' hc
      obtain ⟨rfl, _⟩ := s2.uniq s3
      exact absurd t2 t3
  · rw [h.2 h3, h'.2 h3]

abbrev PFn := Int → Int → Int → Option Nat
/-- So many places, one behind the other, are put. -/
def putN (bs : List Int) (p : Nat) : Nat → PFn × List Int → PFn × List Int
  | 0, s => s
  | n + 1, s => (putF (putN bs p n s).1 bs (p + n), putA (putN bs p n s).1 bs (putN bs p n s).2 (p + n))
theorem putN_next {bs : List Int} {p j t : Nat} {s : PFn × List Int} {f : PFn} {ah : List Int} (h : putN bs p (j + 1) s = (f, ah)) (ht : t = p + j) : putN bs p (j + 1 + 1) s = (putF f bs (t + 1), putA f bs ah (t + 1)) := by
  show (putF (putN bs p (j + 1) s).1 bs (p + (j + 1)), putA (putN bs p (j + 1) s).1 bs (putN bs p (j + 1) s).2 (p + (j + 1))) = _
  rw [h, ht, Nat.add_assoc]
theorem putN_one (bs : List Int) (p : Nat) (f : PFn) (ah : List Int) : putN bs p 1 (f, ah) = (putF f bs p, putA f bs ah p) := rfl

inductive Run (bs : List Int) : Nat → List Pie → Nat → PFn → List Int → Prop
  | nil : Run bs 0 [] 0 (fun _ _ _ => none) (List.replicate bs.length 0)
  | snoc {n p : Nat} {out : List Pie} {f : PFn} {ah : List Int} {pc : Pie} : Run bs n out p f ah → p < bs.length → Best bs (putA f bs ah p) p pc →
      Run bs (n + 1) (out ++ [pc]) (p + adv pc) (putN bs p (adv pc) (f, ah)).1 (putN bs p (adv pc) (f, ah)).2
theorem Run.uniq {bs : List Int} : ∀ {n : Nat} {o o' : List Pie} {p p' : Nat} {f f' : PFn} {a a' : List Int}, Run bs n o p f a → Run bs n o' p' f' a' → o = o' ∧ p = p' ∧ f = f' ∧ a = a'
  | 0, _, _, _, _, _, _, _, _, h, h' => by cases h; cases h'; exact ⟨rfl, rfl, rfl, rfl⟩
  | n + 1, _, _, _, _, _, _, _, _, h, h' => by
    cases h with
    | snoc h1 h2 h3 =>
      cases h' with
      | snoc k1 k2 k3 =>
        obtain ⟨rfl, rfl, rfl, rfl⟩ := Run.uniq h1 k1
        obtain rfl := h3.uniq k3
        exact ⟨rfl, rfl, rfl, rfl⟩
theorem Run.pre {bs : List Int} : ∀ {n : Nat} {o : List Pie} {p : Nat} {f : PFn} {a : List Int}, Run bs n o p f a → ∀ c, c < n → ∃ o' p' f' a', Run bs c o' p' f' a' ∧ p' < bs.length
  | 0, _, _, _, _, _, c, hc => absurd hc (by omega)
  | n + 1, _, _, _, _, h, c, hc => by
    cases h with
    | snoc h1 h2 h3 =>
      by_cases e : c = n
      · subst e
        exact ⟨_, _, _, _, h1, h2⟩
      · exact Run.pre h1 c (by omega)
/-- What Parse says of bytes. -/
def Says (bs : List Int) (out : List Pie) : Prop := ∃ n f a, Run bs n out bs.length f a
theorem Says.uniq {bs : List Int} {o o' : List Pie} (h : Says bs o) (h' : Says bs o') : o = o' := by
  obtain ⟨n, f, a, h⟩ := h
  obtain ⟨n', f', a', h'⟩ := h'
  rcases Nat.lt_trichotomy n n' with hc | rfl | hc
  · obtain ⟨o2, p2, f2, a2, r, hlt⟩ := h'.pre n hc
    obtain ⟨_, e, _⟩ := h.uniq r
    omega
  · exact (h.uniq h').1
  · obtain ⟨o2, p2, f2, a2, r, hlt⟩ := h.pre n' hc
    obtain ⟨_, e, _⟩ := h'.uniq r
    omega

end Go.Proofs.Ytpjjiighojkagaa
