/- Rows that lie apart, each in a block of its own, and what has grown out of each: plain lemmas on worlds; append, told by whether there was room. -/
import Derived.Test.YtlagkfiafelnnaaDoorFr
import Derived.ArgAppend
import Derived.OwnWalk
set_option linter.unusedVariables false
set_option linter.unusedSimpArgs false
namespace Go.Proofs.YtlagkfiafelnnaaDoor
open Go.RowKit Go.Proofs.YtlagkfiafelnnaaDoorW.PrintWords

theorem own_prefix {w : World} {B b n m cap s : Nat} {e : TypeId} {xs ys : List Value} (h : w.ownsRow B e s (.slice (some ⟨b, 0, none⟩) m cap) m (xs ++ ys)) (hx : xs.length = n * s) (hn : n ≤ m) :
    w.ownsRow B e s (.slice (some ⟨b, 0, none⟩) n cap) n xs := by
  refine ⟨hx, ?_⟩
  rcases h.2 with ⟨h', _⟩ | ⟨g', cap', cur, h', hb, hg, hnc, hcm, hcs, htake⟩
  · simp at h'
  · simp only [Value.slice.injEq, Option.some.injEq, Addr.mk.injEq, and_true, true_and] at h'
    obtain ⟨rfl, rfl⟩ := h'
    refine .inr ⟨b, cap, cur, rfl, hb, hg, by omega, hcm, hcs, ?_⟩
    have h1 : (cur.toList.take (m * s)).take (n * s) = cur.toList.take (n * s) := by rw [List.take_take, Nat.min_eq_left (Nat.mul_le_mul_right s hn)]
    rw [← h1, htake, ← hx, List.take_left]

/-- What an append leaves: in the row's own block, or in a new one. -/
def Grew (w w' : World) (v v' : Value) (n m : Nat) : Prop :=
  (∃ b cap, v = .slice (some ⟨b, 0, none⟩) n cap ∧ v' = .slice (some ⟨b, 0, none⟩) (n + m) cap ∧ w.grownBy w' (some b)) ∨ (w.grownBy w' none ∧ ∃ b, v'.ownBlock = some b ∧ w.heap.size ≤ b)

section
variable {P : Program} {w : World} {ops : Array Oper} {rest : List Oper} {o : Oper} {a : Act} {Q : Exit → Act → World → Prop}
theorem wpList_append_ext (B : Nat) (hgd : o.guard = none) (s x : Operand) (t e : TypeId) (z : Value) (size bytes : Nat)
    (ho : o.op = .call { callee := .builtin .append, args := #[s, x], argTypes := #[t, t] })
    (ht : P.underlying t = some (.slice e)) (hinfo : (P.info? e).map (fun i => (i.zero, i.size, i.bytes)) = some (some z, size, bytes)) (hz : z.cells.size = size) (hs0 : 0 < size) (hb0 : 0 < bytes)
    (v : Value) (n : Nat) (xs : List Value) (hs : a.eval s = v) (HO : w.ownsRow B e size v n xs)
    (ad : Addr) (m c : Nat) (news : List Value) (hx : a.eval x = .slice (some ad) m c) (hm0 : 0 < m) (hl : news.length = m * size) (hnews : ∀ j u, news[j]? = some u → w.cell? (ad.add j) = some u) (h1 : ∀ u ∈ news, u.oneCell' = true)
    (hbase : B ≤ w.heap.size) (hbytes : (n + m) * bytes ≤ 140737488355328)
    (h : ∀ v' w', w'.ownsRow B e size v' (n + m) (xs ++ news) → Grew w w' v v' n m → wpList P ops Q rest (a.put o.dst v') w') :
    wpList P ops Q (o :: rest) a w := by
  obtain ⟨i0, hi, hzz⟩ := Option.map_eq_some_iff.1 hinfo
  simp only [Prod.mk.injEq] at hzz
  obtain ⟨hz0, hz1, hz2⟩ := hzz
  have hlen : n + m ≤ 140737488355328 := Nat.le_trans (Nat.le_mul_of_pos_right _ hb0) hbytes
  have grows : ∀ (A : Option Addr) (cap : Nat), v = .slice A n cap → (A = none → n = 0 ∧ cap = 0) → (∀ b, A = some b → ∀ j u, xs[j]? = some u → w.cell? (b.add j) = some u) → cap < n + m → wpList P ops Q (o :: rest) a w := by
    intro A cap hv hnone hc hfull
    refine wpList_append_grows w hgd s x t ho e i0 z size bytes ht hi hz0 hz1 hz2 hz hs0 A n cap xs (hs.trans hv) hnone HO.1 hc ad m c news hx hl hnews h1 hfull (by simp only [maxLen]; omega) hbytes ?_
    intro v' w' ho' hg'
    refine h v' w' (own_less ho' hbase) (.inr ⟨hg', ?_⟩)
    obtain ⟨g, cap', rfl, hb, _⟩ := ho'.form (by omega)
    exact ⟨g, rfl, hb⟩
  rcases HO.2 with ⟨rfl, rfl⟩ | ⟨g, cap, cur, rfl, hb, hh, hnc, hcm, hcs, htake⟩
  · exact grows none 0 rfl (fun _ => ⟨rfl, rfl⟩) (fun b hb => by simp at hb) (by omega)
  · by_cases hf : n + m ≤ cap
    · refine wpList_append_fits w hgd s x t ho B e i0 size ht hi hz1 g n cap xs hs HO ad m c news hx hl hnews h1 hf ?_
      intro w' ho' hg'
      exact h _ w' ho' (.inl ⟨g, cap, rfl, rfl, hg'⟩)
    · refine grows (some ⟨g, 0, none⟩) cap rfl (fun h => by simp at h) (fun b hb j u hu => ?_) (by omega)
      obtain rfl := Option.some.inj hb
      rw [add_plain]
      exact (HO.cellAt j (by have := (List.getElem?_eq_some_iff.1 hu).1; rw [HO.1] at this; exact this)).trans hu
end

def Blk (v g : Value) (b : Nat) : Prop := v.ownBlock = some b ∨ g.ownBlock = some b

/-- Zo: old blocks that are none of the rows'. -/
structure Flat (Zo : Nat → Prop) (w : World) (e : TypeId) (s B K : Nat) (v g : Nat → Value) (n m : Nat → Nat) (X Y : Nat → List Value) : Prop where
  ov : ∀ k, k < K → w.ownsRow B e s (v k) (n k) (X k)
  og : ∀ k, k < K → w.ownsRow B e s (g k) (m k) (Y k)
  ap : ∀ i j b, i < K → j < K → i ≠ j → Blk (v i) (g i) b → ¬ Blk (v j) (g j) b
  zf : ∀ k b, k < K → Blk (v k) (g k) b → ¬ Zo b
  zl : ∀ b, Zo b → b < w.heap.size

section
variable {Zo : Nat → Prop} {w w' : World} {e : TypeId} {s B K : Nat} {v g : Nat → Value} {n m : Nat → Nat} {X Y : Nat → List Value}
theorem Flat.lt (h : Flat Zo w e s B K v g n m X Y) {k b : Nat} (hk : k < K) (hb : Blk (v k) (g k) b) : b < w.heap.size := by
  rcases hb with hb | hb
  · exact own_lt (h.ov k hk) b hb
  · exact own_lt (h.og k hk) b hb
theorem Flat.ge (h : Flat Zo w e s B K v g n m X Y) {k b : Nat} (hk : k < K) (hb : Blk (v k) (g k) b) : B ≤ b := by
  rcases hb with hb | hb
  · exact own_base (h.ov k hk) b hb
  · exact own_base (h.og k hk) b hb
/-- A block that is none of the rows'. -/
def NoRow (K : Nat) (v g : Nat → Value) (b : Nat) : Prop := ∀ j, j < K → ¬ Blk (v j) (g j) b
theorem Flat.noRow (h : Flat Zo w e s B K v g n m X Y) {b : Nat} {cs : Array Value} {t : TypeId} (hb : w.heap[b]? = some (.cells cs t (0, 0))) (hne : e ≠ t) : NoRow K v g b := by
  intro j hj hB
  rcases hB with hB | hB
  · obtain ⟨cells, hc⟩ := own_typed (h.ov j hj) b hB
    rw [hb] at hc
    simp at hc
    exact hne hc.2.symm
  · obtain ⟨cells, hc⟩ := own_typed (h.og j hj) b hB
    rw [hb] at hc
    simp at hc
    exact hne hc.2.symm
theorem Flat.noRow_new (h : Flat Zo w e s B K v g n m X Y) {b : Nat} (hb : w.heap.size ≤ b) : NoRow K v g b := fun j hj hB => by have := h.lt hj hB; omega
theorem Flat.fr {S : Nat → Prop} (h : Flat Zo w e s B K v g n m X Y) (hf : Fr S w w') (hS : ∀ b, S b → NoRow K v g b) : Flat Zo w' e s B K v g n m X Y :=
  ⟨fun k hk => hf.own (h.ov k hk) (fun b hb hs => hS b hs k hk (.inl hb)), fun k hk => hf.own (h.og k hk) (fun b hb hs => hS b hs k hk (.inr hb)), h.ap, h.zf, fun b hb => Nat.lt_of_lt_of_le (h.zl b hb) hf.size⟩
def at_ {α : Type} (f : Nat → α) (k : Nat) (x : α) : Nat → α := fun j => if j = k then x else f j
@[simp] theorem at_same {α : Type} (f : Nat → α) (k : Nat) (x : α) : at_ f k x k = x := if_pos rfl
theorem at_other {α : Type} (f : Nat → α) {k j : Nat} (x : α) (h : j ≠ k) : at_ f k x j = f j := if_neg h

/-- Row k has turned; the others lie as they lay. -/
theorem Flat.turn {S : Nat → Prop} {k : Nat} {g' : Value} {m' : Nat} {X' Y' : List Value} (h : Flat Zo w e s B K v g n m X Y) (hk : k < K) (hf : Fr S w w') (hS : ∀ b, S b → Blk (v k) (g k) b ∨ NoRow K v g b ∨ w.heap.size ≤ b)
    (hv : w'.ownsRow B e s (v k) (n k) X') (hg : w'.ownsRow B e s g' m' Y') (hn : ∀ b, g'.ownBlock = some b → Blk (v k) (g k) b ∨ w.heap.size ≤ b) :
    Flat Zo w' e s B K v (at_ g k g') n (at_ m k m') (at_ X k X') (at_ Y k Y') := by
  have far : ∀ j, j < K → j ≠ k → ∀ b, Blk (v j) (g j) b → ¬ S b := fun j hj hne b hb hs => by
    rcases hS b hs with h1 | h1 | h1
    · exact h.ap j k b hj hk hne hb h1
    · exact h1 j hj hb
    · have := h.lt hj hb; omega
  have new : ∀ b, Blk (v k) g' b → Blk (v k) (g k) b ∨ w.heap.size ≤ b := fun b hb => hb.elim (fun h => .inl (.inl h)) (hn b)
  refine ⟨fun j hj => ?_, fun j hj => ?_, fun i j b hi hj hij hb hb' => ?_, fun j b hj hb hz => ?_, fun b hb => Nat.lt_of_lt_of_le (h.zl b hb) hf.size⟩
  · by_cases hjk : j = k
    · subst hjk; rw [at_same]; exact hv
    · rw [at_other _ _ hjk]; exact hf.own (h.ov j hj) (fun b hb => far j hj hjk b (.inl hb))
  · by_cases hjk : j = k
    · subst hjk; rw [at_same, at_same, at_same]; exact hg
    · rw [at_other _ _ hjk, at_other _ _ hjk, at_other _ _ hjk]; exact hf.own (h.og j hj) (fun b hb => far j hj hjk b (.inr hb))
  · by_cases hik : i = k
    · subst hik
      rw [at_same] at hb
      rw [at_other _ _ (fun e => hij e.symm)] at hb'
      rcases new b hb with h1 | h1
      · exact h.ap i j b hi hj hij h1 hb'
      · have := h.lt hj hb'; omega
    · rw [at_other _ _ hik] at hb
      by_cases hjk : j = k
      · subst hjk
        rw [at_same] at hb'
        rcases new b hb' with h1 | h1
        · exact h.ap i j b hi hj hij hb h1
        · have := h.lt hi hb; omega
      · rw [at_other _ _ hjk] at hb'
        exact h.ap i j b hi hj hij hb hb'
  · by_cases hjk : j = k
    · subst hjk
      rw [at_same] at hb
      rcases new b hb with h1 | h1
      · exact h.zf j b hj h1 hz
      · have := h.zl b hz; omega
    · rw [at_other _ _ hjk] at hb
      exact h.zf j b hj hb hz
end

/-- What has grown out of a row lies in the row's own block, or in another one. -/
def Ext (v : Value) (n : Nat) (x : Value) (m : Nat) : Prop :=
  (∃ b cap, v = .slice (some ⟨b, 0, none⟩) n cap ∧ x = .slice (some ⟨b, 0, none⟩) m cap) ∨ (∀ b, v.ownBlock = some b → x.ownBlock ≠ some b)
theorem Ext.self {w : World} {B n s : Nat} {e : TypeId} {v : Value} {xs : List Value} (h : w.ownsRow B e s v n xs) : Ext v n v n := by
  rcases h.2 with ⟨rfl, rfl⟩ | ⟨g, cap, cur, rfl, _⟩
  · exact .inr (fun b hb => by simp [Value.ownBlock] at hb)
  · exact .inl ⟨g, cap, rfl, rfl⟩

section
variable {Zo : Nat → Prop} {w w' : World} {e : TypeId} {s B K : Nat} {v g : Nat → Value} {n m : Nat → Nat} {X Y : Nat → List Value}
theorem at_id {α : Type} (f : Nat → α) (k : Nat) : at_ f k (f k) = f := by
  funext j
  unfold at_
  split
  · rename_i h; rw [h]
  · rfl
theorem at_at {α : Type} (f : Nat → α) (k : Nat) (x y : α) : at_ (at_ f k x) k y = at_ f k y := by
  funext j
  unfold at_
  split <;> rfl
theorem Flat.congr {X2 : Nat → List Value} (h : Flat Zo w e s B K v g n m X Y) (hX : ∀ j, j < K → X j = X2 j) : Flat Zo w e s B K v g n m X2 Y :=
  ⟨fun k hk => by rw [← hX k hk]; exact h.ov k hk, h.og, h.ap, h.zf, h.zl⟩

/-- What has grown out of row k grows on. -/
theorem Flat.grow {k c : Nat} {x' : Value} {Z news : List Value} (h : Flat Zo w e s B K v g n m X Y) (hk : k < K) (hx : Ext (v k) (n k) (g k) (m k)) (hpre : Y k = X k ++ Z) (hnm : n k ≤ m k)
    (ho : w'.ownsRow B e s x' (m k + c) (Y k ++ news)) (hg : Grew w w' (g k) x' (m k) c) :
    Flat Zo w' e s B K v (at_ g k x') n (at_ m k (m k + c)) X (at_ Y k (Y k ++ news)) ∧ Ext (v k) (n k) x' (m k + c) ∧ Fr (fun b => (g k).ownBlock = some b) w w' := by
  have hXl := (h.ov k hk).1
  rcases hg with ⟨b, cap, e1, e2, hgr⟩ | ⟨hgr, b, e1, hb⟩
  · have hgb : (g k).ownBlock = some b := by rw [e1]; rfl
    have hxb : x'.ownBlock = some b := by rw [e2]; rfl
    have hf : Fr (fun b => (g k).ownBlock = some b) w w' := (Fr.refl _ w).grown hgr (fun i hi => .inl (by rw [hgb]; exact hi))
    have hn : ∀ i, x'.ownBlock = some i → Blk (v k) (g k) i ∨ w.heap.size ≤ i := fun i hi => .inl (.inr (by rw [hgb, ← hxb]; exact hi))
    have hS : ∀ i, (g k).ownBlock = some i → Blk (v k) (g k) i ∨ NoRow K v g i ∨ w.heap.size ≤ i := fun i hi => .inl (.inr hi)
    rcases hx with ⟨b0, cap0, e3, e4⟩ | hx
    · obtain ⟨rfl, rfl⟩ : b = b0 ∧ cap = cap0 := by rw [e1] at e4; injection e4 with h1 _ h3; injection h1 with h1; injection h1 with h1; exact ⟨h1, h3⟩
      have hov : w'.ownsRow B e s (v k) (n k) (X k) := by
        rw [e3]
        rw [e2, hpre, List.append_assoc] at ho
        exact own_prefix ho hXl (by omega)
      have t := h.turn hk hf hS hov ho hn
      rw [at_id] at t
      exact ⟨t, .inl ⟨b, cap, e3, e2⟩, hf⟩
    · have hov : w'.ownsRow B e s (v k) (n k) (X k) := hf.own (h.ov k hk) (fun i hi hi2 => hx i hi hi2)
      have t := h.turn hk hf hS hov ho hn
      rw [at_id] at t
      exact ⟨t, .inr (fun i hi => by rw [hxb, ← hgb]; exact hx i hi), hf⟩
  · have hf0 : Fr (fun _ => False) w w' := (Fr.refl _ w).grown hgr (fun i hi => by simp at hi)
    have hf : Fr (fun b => (g k).ownBlock = some b) w w' := hf0.mono (fun _ h => h.elim)
    have hov : w'.ownsRow B e s (v k) (n k) (X k) := hf0.own (h.ov k hk) (fun _ _ h => h)
    have t := h.turn hk hf (fun i hi => .inl (.inr hi)) hov ho (fun i hi => .inr (by rw [e1] at hi; injection hi with hi; omega))
    rw [at_id] at t
    refine ⟨t, .inr (fun i hi hi2 => ?_), hf⟩
    have := own_lt (h.ov k hk) i hi
    rw [e1] at hi2
    injection hi2 with hi2
    omega

/-- A row of slices. -/
def Arr (w : World) (t : TypeId) (b K : Nat) (f : Nat → Value) : Prop := ∃ cs, w.heap[b]? = some (.cells cs t (0, 0)) ∧ ∀ j, j < K → cs[j]? = some (f j)
variable {t : TypeId} {b : Nat} {f : Nat → Value}
theorem Arr.cell (h : Arr w t b K f) {j : Nat} (hj : j < K) : w.cell? ⟨b, j, none⟩ = some (f j) := by
  obtain ⟨cs, h1, h2⟩ := h
  rw [blk_cell h1 j, h2 j hj]
theorem Arr.frozen (h : Arr w t b K f) (j : Nat) : w.frozen? ⟨b, j, none⟩ = false := by
  obtain ⟨cs, h1, h2⟩ := h
  exact blk_frozen h1 j
theorem Arr.fr {S : Nat → Prop} (h : Arr w t b K f) (hf : Fr S w w') (hn : ¬ S b) : Arr w' t b K f := by
  obtain ⟨cs, h1, h2⟩ := h
  exact ⟨cs, hf.heap h1 hn, h2⟩
theorem Arr.lt (h : Arr w t b K f) : b < w.heap.size := by
  obtain ⟨cs, h1, h2⟩ := h
  exact blk_lt h1
theorem Arr.set (h : Arr w t b K f) {k : Nat} (hk : k < K) (x : Value) : Arr (w.setCell ⟨b, k, none⟩ x) t b K (at_ f k x) := by
  obtain ⟨cs, h1, h2⟩ := h
  refine ⟨_, blk_set h1 k x, fun j hj => ?_⟩
  by_cases hjk : j = k
  · subst hjk
    have hlt := (Array.getElem?_eq_some_iff.1 (h2 j hj)).1
    rw [at_same, Array.getElem?_setIfInBounds_self_of_lt hlt]
  · rw [at_other _ _ hjk, Array.getElem?_setIfInBounds_ne (fun e => hjk e.symm)]
    exact h2 j hj
theorem Flat.noArr (h : Flat Zo w e s B K v g n m X Y) {K' : Nat} (ha : Arr w t b K' f) (hne : e ≠ t) : NoRow K v g b := by
  obtain ⟨cs, h1, h2⟩ := ha
  exact h.noRow h1 hne
end

end Go.Proofs.YtlagkfiafelnnaaDoor
