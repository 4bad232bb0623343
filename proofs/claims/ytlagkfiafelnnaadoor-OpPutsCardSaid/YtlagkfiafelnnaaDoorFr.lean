/- The frame of a call: what it leaves of the memory as it was. Plain lemmas on worlds; no function of the program is in sight. -/
import Derived.WalkKit
import Derived.Below
import Derived.Maps.AppendAt
import Derived.Deep.AppendLies
import Derived.Test.YtlagkfiafelnnaaDoorWWords
set_option linter.unusedVariables false
set_option linter.unusedSimpArgs false
namespace Go.Proofs.YtlagkfiafelnnaaDoor
open Go.RowKit Go.Proofs.YtlagkfiafelnnaaDoorW.PrintWords

/-- W' is W but for the blocks of S, and what is new. -/
structure Fr (S : Nat → Prop) (W W' : World) : Prop where
  os : W'.os = W.os
  tape : W'.tape = W.tape
  output : W'.output = W.output
  size : W.heap.size ≤ W'.heap.size
  block : ∀ k, k < W.heap.size → ¬ S k → W'.heap[k]? = W.heap[k]?

theorem Fr.refl (S : Nat → Prop) (W : World) : Fr S W W := ⟨rfl, rfl, rfl, Nat.le_refl _, fun _ _ _ => rfl⟩
theorem Fr.trans {S S2 : Nat → Prop} {W W1 W2 : World} (h : Fr S W W1) (k : Fr S2 W1 W2) (hs : ∀ i, S2 i → S i ∨ W.heap.size ≤ i) : Fr S W W2 :=
  ⟨k.os.trans h.os, k.tape.trans h.tape, k.output.trans h.output, Nat.le_trans h.size k.size, fun i hi hn => (k.block i (Nat.lt_of_lt_of_le hi h.size) (fun h2 => (hs i h2).elim hn (fun h3 => by omega))).trans (h.block i hi hn)⟩
theorem Fr.mono {S S2 : Nat → Prop} {W W1 : World} (h : Fr S W W1) (hs : ∀ i, S i → S2 i) : Fr S2 W W1 := ⟨h.os, h.tape, h.output, h.size, fun i hi hn => h.block i hi (fun h2 => hn (hs i h2))⟩
theorem Fr.of_below {W W1 : World} (h : Below W.heap.size W W1) (S : Nat → Prop) : Fr S W W1 := ⟨h.os, h.tape, h.output, h.size, fun i hi _ => h.block i hi⟩
theorem Fr.below {S : Nat → Prop} {W W1 : World} {B : Nat} (h : Fr S W W1) (hB : B ≤ W.heap.size) (hs : ∀ i, S i → B ≤ i) : Below B W W1 := ⟨h.os, h.tape, h.output, h.size, fun i hi => h.block i (by omega) (fun h2 => by have := hs i h2; omega)⟩
theorem Fr.then_below {S : Nat → Prop} {W W1 W2 : World} {B : Nat} (h : Below B W W1) (k : Fr S W1 W2) (hB : B ≤ W1.heap.size) (hs : ∀ i, S i → B ≤ i) : Below B W W2 := h.trans (k.below hB hs)
theorem Fr.alloc {S : Nat → Prop} {W W1 : World} (h : Fr S W W1) (o : Obj) : Fr S W (W1.alloc o) := h.trans (Fr.of_below (below_alloc (Below.refl _ _) o) (fun _ => False)) (fun _ hk => hk.elim)
theorem Fr.drew {S : Nat → Prop} {W W1 : World} (h : Fr S W W1) : Fr S W W1.drew := ⟨h.os, h.tape, h.output, h.size, h.block⟩
theorem Fr.drewN {S : Nat → Prop} {W W1 : World} (h : Fr S W W1) (n : Nat) : Fr S W (W1.drewN n) := ⟨h.os, h.tape, h.output, h.size, h.block⟩
theorem Fr.set {S : Nat → Prop} {W W1 : World} (h : Fr S W W1) {p : Addr} (hp : S p.block ∨ W.heap.size ≤ p.block) (u : Value) : Fr S W (W1.setCell p u) :=
  h.trans (S2 := fun k => k = p.block) ⟨rfl, rfl, rfl, by simp [World.setCell], fun i _ hn => Below.heap_setCell W1 p u i hn⟩ (fun k hk => by rw [hk]; exact hp)
theorem Fr.grown {S : Nat → Prop} {W W1 W2 : World} {row : Option Nat} (h : Fr S W W1) (hg : W1.grownBy W2 row) (hr : ∀ k, row = some k → S k ∨ W.heap.size ≤ k) : Fr S W W2 :=
  h.trans (S2 := fun k => row = some k) ⟨hg.os, hg.tape, hg.output, hg.size, fun i hi hn => hg.block i hi (fun he => hn he.symm)⟩ hr
theorem Fr.heap {S : Nat → Prop} {W W1 : World} (h : Fr S W W1) {g : Nat} {o : Obj} (hb : W.heap[g]? = some o) (hn : ¬ S g) : W1.heap[g]? = some o := (h.block g (blk_lt hb) hn).trans hb
theorem Fr.own {S : Nat → Prop} {W W1 : World} (h : Fr S W W1) {base n : Nat} {e : TypeId} {size : Nat} {v : Value} {xs : List Value} (ho : W.ownsRow base e size v n xs) (hn : ∀ k, v.ownBlock = some k → ¬ S k) : W1.ownsRow base e size v n xs :=
  own_move ho (fun k hk => h.block k (own_lt ho k hk) (hn k hk))
theorem Fr.cell {S : Nat → Prop} {W W1 : World} (h : Fr S W W1) {a : Addr} {v : Value} (hc : W.cell? a = some v) (hn : ¬ S a.block) : W1.cell? a = some v :=
  (World.cell?_of_block (h.block a.block (World.block_lt_of_cell? W a hc) hn)).trans hc
theorem Fr.frozen {S : Nat → Prop} {W W1 : World} (h : Fr S W W1) {a : Addr} {b : Bool} (hlt : a.block < W.heap.size) (hc : W.frozen? a = b) (hn : ¬ S a.block) : W1.frozen? a = b :=
  (World.frozen?_of_block (h.block a.block hlt hn)).trans hc

/-- A slice of whole numbers that is read: its numbers. -/
def Rds (W : World) (k : IntKind) (v : Value) (xs : List Int) : Prop := ∃ A c, v = .slice A xs.length c ∧ xs.length ≤ c ∧ (A = none → c = 0) ∧ ReadsInt W k A xs.length xs
theorem Rds.nil (W : World) (k : IntKind) : Rds W k (.slice none 0 0) [] := ⟨none, 0, rfl, Nat.le_refl _, fun _ => rfl, rfl, by simp, fun h => absurd h (by simp)⟩
theorem Rds.fr {S : Nat → Prop} {W W1 : World} {k : IntKind} {v : Value} {xs : List Int} (h : Rds W k v xs) (hf : Fr S W W1) (hn : ∀ A n c, v = .slice (some A) n c → ¬ S A.block) : Rds W1 k v xs := by
  obtain ⟨A, c, rfl, hc, h0, h1, h2, h3⟩ := h
  refine ⟨A, c, rfl, hc, h0, h1, h2, fun hp => ?_⟩
  obtain ⟨ad, rfl, h4⟩ := h3 hp
  exact ⟨ad, rfl, fun j hj => hf.cell (h4 j hj) (by have := hn ad _ _ rfl; unfold Addr.add; split <;> simpa using this)⟩
theorem Rds.below {W W1 : World} {k : IntKind} {v : Value} {xs : List Int} (h : Rds W k v xs) (hb : Below W.heap.size W W1) : Rds W1 k v xs := h.fr (Fr.of_below hb (fun _ => False)) (fun _ _ _ _ h => h)
theorem own_rds {W : World} {base n : Nat} {e : TypeId} {k : IntKind} {v : Value} {xs : List Int} (h : W.ownsRow base e 1 v n (xs.map (Value.int k))) : Rds W k v xs := by
  have hl : xs.length = n := by have := h.1; simpa using this
  obtain ⟨A, c, e1, hr⟩ := own_reads (xs := xs) h
  subst hl
  rcases h.2 with ⟨e2, e3⟩ | ⟨g, cap, cur, e2, _, _, h1, _⟩
  · rw [e1] at e2; injection e2 with e5 _ e4
    exact ⟨A, c, e1, by omega, fun _ => e4, hr⟩
  · rw [e1] at e2; injection e2 with e5 _ e4
    exact ⟨A, c, e1, by omega, fun h => by rw [h] at e5; simp at e5, hr⟩

end Go.Proofs.YtlagkfiafelnnaaDoor
