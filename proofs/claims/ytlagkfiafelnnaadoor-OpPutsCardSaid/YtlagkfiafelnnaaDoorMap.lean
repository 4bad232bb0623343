/- A map from keys of 32 bytes to numbers, that a call makes itself, as a plain function of the bytes. -/
import Derived.Test.YtlagkfiafelnnaaDoorOpM
import Derived.Test.YtlagkfiafelnnaaDoorReg
import Derived.Maps.OwnSet
import Derived.Maps.Views
import Derived.DeepKeys4
import Derived.WideKeyArr
import Derived.WideKeyEntry
set_option linter.unusedVariables false
set_option linter.unusedSimpArgs false
namespace Go.Proofs.YtlagkfiafelnnaaDoor
open Go.RowKit Go.Maps Go.WideMaps Go.ChangeMaps Go.Proofs.YtlagkfiafelnnaaDoorW.PrintWords

theorem arrK : ArrKey Tryd.prog 60 5 32 := ⟨Tryd.underlying60, by kernel_rfl, by kernel_rfl, by kernel_rfl⟩
theorem klaw : Keyed Tryd.prog 60 := Keyed.of_law arrK.law
theorem zeroInt (w : World) : (zeroValue 3).run Tryd.prog w = .ok (.int .i64 0) w := by kernel_rfl
def keyV (k : List Int) : Value := .agg (k.map (Value.int .u8)).toArray
def keyL (k : List Int) : Lit := .string (keyBytes (k.map fun x => Lit.int .u8 x))
theorem wf_byte {a : Int} (h0 : 0 ≤ a) (h1 : a < 256) : (Lit.int .u8 a).wf = true := by simp [Lit.wf, IntKind.min, IntKind.max, IntKind.signed, IntKind.bits]; omega
theorem mapM_some {α β : Type} {f : α → Option β} {g : α → β} : ∀ (l : List α), (∀ x ∈ l, f x = some (g x)) → l.mapM f = some (l.map g)
  | [], _ => rfl
  | x :: l, h => by
    rw [List.mapM_cons, h x (by simp), mapM_some l (fun y hy => h y (by simp [hy]))]
    rfl
theorem flat_one {α β : Type} (l : List α) (g : α → β) : (l.map fun x => [g x]).flatten = l.map g := by
  induction l with
  | nil => rfl
  | cons x l ih => simpa using ih
theorem keyOfK {k : List Int} (h : KeyOk k) : keyOf Tryd.prog 60 (keyV k) = some (keyL k) := by
  have hsz : ∃ m, Tryd.prog.types.size = m + 1 := ⟨Tryd.prog.types.size - 1, by kernel_rfl⟩
  have hkt := arrK.keyType hsz
  obtain ⟨m, hm⟩ := hsz
  unfold keyOf
  simp only [arrK.hu]
  rw [if_pos (by simp [hkt, keyV, Value.formed, arrK.hu, arrK.size, h.1]), hm]
  have hl : (k.map (Value.int .u8)).length = 32 := by rw [List.length_map, h.1]
  have key : (List.range 32).mapM (fun i => Tryd.prog.keyLits (m + 1) 5 (((k.map (Value.int .u8)).drop (i * 1)).take 1)) = some ((List.range 32).map fun i => [Lit.int .u8 (k.getD i 0)]) := by
    refine mapM_some _ fun i hi => ?_
    have hi' : i < 32 := List.mem_range.1 hi
    have hx : k[i]'(by rw [h.1]; exact hi') = k.getD i 0 := by rw [List.getD_eq_getElem?_getD, List.getElem?_eq_getElem (by rw [h.1]; exact hi')]; rfl
    have hb := h.2 (k[i]'(by rw [h.1]; exact hi')) (List.getElem_mem _)
    rw [Nat.mul_one, List.drop_eq_getElem_cons (by rw [hl]; exact hi'), List.take_succ_cons, List.take_zero, List.getElem_map]
    unfold Program.keyLits
    simp only [Tryd.underlying5]
    have hw := wf_byte hb.1 hb.2
    simp only [hw, and_self, if_true]
    rw [hx]
  unfold Program.keyLits
  simp only [arrK.hu, Value.cells, keyV]
  rw [if_pos (by rw [arrK.size]; exact hl), arrK.one]
  show Option.map _ (Option.map List.flatten ((List.range 32).mapM fun i => Tryd.prog.keyLits (m + 1) 5 (((k.map (Value.int .u8)).drop (i * 1)).take 1))) = _
  rw [key]
  have e : ((List.range 32).map fun i => Lit.int .u8 (k.getD i 0)) = k.map fun x => Lit.int .u8 x := by
    apply List.ext_getElem
    · simp [h.1]
    · intro i h1 h2
      simp [List.getD_eq_getElem?_getD, List.getElem?_eq_getElem (show i < k.length by simpa using h2)]
  rw [Option.map_some, flat_one, e]
  rfl
theorem keyV_inj {k k' : List Int} (h : keyV k = keyV k') : k = k' := by
  unfold keyV at h
  injection h with h
  have h1 := congrArg Array.toList h
  simp only at h1
  apply List.ext_getElem?
  intro i
  have := congrArg (fun l => l[i]?) h1
  simp only [List.getElem?_map] at this
  cases ha : k[i]? <;> cases hb : k'[i]? <;> simp_all
theorem keyL_inj {k k' : List Int} (hk : KeyOk k) (hk' : KeyOk k') (h : keyL k = keyL k') : k = k' := by
  have h1 := keyOfK hk
  rw [h] at h1
  exact keyV_inj (klaw.inj h1 (keyOfK hk'))

/-- Block g is a map of at most n entries that counts as f says. -/
def IsM (W : World) (g n : Nat) (f : List Int → Nat) : Prop :=
  ∃ D : DataW Unit, W.ownsMap Tryd.prog 60 (plainElem Tryd.prog 3) g n D ∧ ∀ k, KeyOk k → D.atKey (keyL k) (.lit (.int .i64 0)) = .lit (.int .i64 (f k : Int))
theorem IsM.made (W : World) : IsM (W.alloc (.map #[] 0)) W.heap.size 0 (fun _ => 0) :=
  ⟨.map [], World.ownsMap_made _ _ _ _, fun k _ => rfl⟩
theorem IsM.fr {S : Nat → Prop} {W W1 : World} {g n : Nat} {f : List Int → Nat} (h : IsM W g n f) (hf : Fr S W W1) (hn : ¬ S g) : IsM W1 g n f := by
  obtain ⟨D, ⟨es, cl, hb, r⟩, hD⟩ := h
  exact ⟨D, ⟨es, cl, hf.heap hb hn, r⟩, hD⟩
theorem IsM.lt {W : World} {g n : Nat} {f : List Int → Nat} (h : IsM W g n f) : g < W.heap.size := by
  obtain ⟨D, ⟨es, cl, hb, r⟩, hD⟩ := h
  exact blk_lt hb
def bump (f : List Int → Nat) (k : List Int) : List Int → Nat := fun x => if x = k then f k + 1 else f x

section
open Go.WideElems Go.MapKept Go.ChangeMaps Go.WideShapes
/-- The entry of a key, found or made; and what a store of the entry's own value leaves. -/
theorem entry_run {H : Type} {P : Program} {w : World} {t k e : TypeId} {R : Value → Option (DataW H × List MemPlace)} {b : Nat} {es : Array MapEntry} {clock : Nat}
    (K : Go.WideMaps.KeyLaw P k) (ht : P.underlying t = some (.map k e)) {z : Value} (hz : ∀ u : World, (zeroValue e).run P u = .ok z u) (hb : w.heap[b]? = some (.map es clock)) (F : Fit P k R es clock)
    {key : Value} {kl : Lit} (hkey : keyOf P k key = some kl) :
    ∃ (v0 : Value) (st : Nat) (es1 : Array MapEntry) (clock1 : Nat), (Instr.mapEntry t (.map (some b)) key).run P w = .ok (.tuple #[v0, goInt st]) (setBlock w b (.map es1 clock1)) ∧
      (Instr.lookup t (.map (some b)) key false).run P w = .ok v0 w ∧
      (Instr.mapUpdate t (.map (some b)) key v0).run P w = .ok () (setBlock w b (.map es1 clock1)) := by
  have hkeys := K.find w hkey es.toList F.keys
  rcases hkeys with ⟨n1, n2⟩ | ⟨j, e0, n1, n2, n3⟩
  · exact ⟨z, clock, _, clock + 1, by simp [Instr.mapEntry, run_underlying ht, MapKept.run_getObj_map hb, K.check w false hkey, n1, hz, MapKept.run_setObj_map _ hb, Result.andThen, setBlock]; rfl, by simp [Instr.lookup, run_underlying ht, MapKept.run_getObj_map hb, K.check w _ hkey, n1, hz, Result.andThen],
      by simp [Instr.mapUpdate, run_underlying ht, MapKept.run_getObj_map hb, K.check w false hkey, n1, MapKept.run_setObj_map _ hb, Result.andThen, setBlock]⟩
  · have hj : es[j]? = some e0 := by simpa using n2
    have same : ∀ g : MapEntry → MapEntry, g e0 = e0 → es.modify j g = es := fun g hg => by
      apply Array.ext'
      rw [Array.toList_modify, modify_eq_set _ _ _ _ n2, hg]
      exact set_self _ _ _ n2
    have s1 := same (fun e => { e with key := key }) (by rw [← n3])
    have s2 := same (fun e => { e with key := key, val := e0.val }) (by rw [← n3])
    refine ⟨e0.val, e0.born, es, clock, ?_, by simp [Instr.lookup, run_underlying ht, MapKept.run_getObj_map hb, K.check w _ hkey, n1, hj, Result.andThen], ?_⟩
    · simp [Instr.mapEntry, run_underlying ht, MapKept.run_getObj_map hb, K.check w false hkey, n1, hj, n3, K.stays w hkey, s1, MapKept.run_setObj_map _ hb, Result.andThen, setBlock]
    · simp [Instr.mapUpdate, run_underlying ht, MapKept.run_getObj_map hb, K.check w false hkey, n1, hj, n3, K.stays w hkey, s2, MapKept.run_setObj_map _ hb, Result.andThen, setBlock]
end

/-- What 'm[k]++' does, in both orders that Go leaves open. -/
theorem IsM.bump_run {W : World} {g n : Nat} {f : List Int → Nat} {k : List Int} (h : IsM W g n f) (hn : n < 1000000) (hk : KeyOk k) (hf : f k < 1000000) :
    ∃ (v0 : Value) (st : Nat) (W1 W2 : World), Fr (fun i => i = g) W W1 ∧ Fr (fun i => i = g) W W2 ∧ IsM W2 g (n + 1) (bump f k) ∧
      (Instr.lookup 115 (.map (some g)) (keyV k) false).run Tryd.prog W = .ok (.int .i64 (f k : Int)) W ∧
      (Instr.mapEntry 115 (.map (some g)) (keyV k)).run Tryd.prog W = .ok (.tuple #[v0, .int .i64 (st : Int)]) W1 ∧
      (Instr.lookup 115 (.map (some g)) (keyV k) false).run Tryd.prog W1 = .ok (.int .i64 (f k : Int)) W1 ∧
      (Instr.entryStore 115 (.map (some g)) (.int .i64 (st : Int)) (.int .i64 ((f k : Int) + 1))).run Tryd.prog W1 = .ok () W2 := by
  obtain ⟨D, hown, hD⟩ := h
  have hmap : Maps.IsMap D := by obtain ⟨_, _, _, _, _, e⟩ := hown; exact ⟨_, e⟩
  have hkk := keyOfK hk
  have hf0 := hD k hk
  have hown0 := hown
  obtain ⟨es, clock, hb, F, hs, hDe⟩ := hown
  obtain ⟨v0, st, es1, clock1, h1, h2, h3⟩ := entry_run arrK.law Tryd.underlying115 zeroInt hb F hkk
  obtain ⟨v0', st', es1', clock1', g1, g2, g3⟩ := Go.WideElems.entry_then_store arrK.law Tryd.underlying115 zeroInt hb F hkk
  have e0 := h1.symm.trans g1
  simp only [Result.ok.injEq, Value.tuple.injEq, Array.mk.injEq, List.cons.injEq, and_true, goInt, Value.int.injEq, true_and] at e0
  obtain ⟨⟨rfl, ee⟩, ew⟩ := e0
  have e1 := heap_setBlock_same (w := W) hb (.map es1 clock1)
  rw [ew, heap_setBlock_same hb] at e1
  simp only [Option.some.injEq, Obj.map.injEq] at e1
  obtain ⟨rfl, rfl⟩ := e1
  obtain ⟨c, l1, l2, l3⟩ := hown0.lookup_int klaw Tryd.underlying115 Tryd.underlying3 (zeroInt _) hkk
  have ec : c = (f k : Int) := by rw [hf0] at l2; simpa using l2.symm
  have ev : v0 = .int .i64 (f k : Int) := by have := h2.symm.trans l1; simp only [Result.ok.injEq, and_true] at this; rw [this, ec]
  subst ev
  have wf1 : (Lit.int .i64 (f k : Int)).wf = true := WalkArith.wf_i64 (by omega)
  have wf2 : (Lit.int .i64 ((f k : Int) + 1)).wf = true := WalkArith.wf_i64 (by omega)
  obtain ⟨W1, u1, o1, gr1⟩ := hown0.update klaw Tryd.underlying115 (by simp only [maxLen]; omega) hkk (plainElem_int Tryd.underlying3 wf1)
  have ew1 : setBlock W g (.map es1' clock1') = W1 := by have := h3.symm.trans u1; simpa only [Result.ok.injEq, true_and] using this
  obtain ⟨es2, cl2, s1, s2⟩ := g3 W1 (.int .i64 ((f k : Int) + 1)) (by rw [← ew1]; exact heap_setBlock_same hb _)
  obtain ⟨W2, u2, o2, gr2⟩ := hown0.update klaw Tryd.underlying115 (by simp only [maxLen]; omega) hkk (plainElem_int Tryd.underlying3 wf2)
  have ew2 : setBlock W g (.map es2 cl2) = W2 := by have := s2.symm.trans u2; simpa only [Result.ok.injEq, true_and] using this
  have est : st = st' := by omega
  subst est
  have z1 : setBlock W1 g (.map es2 cl2) = W2 := by
    rw [← ew1, ← ew2]
    simp [setBlock]
  have hD1 : ∀ x, KeyOk x → (D.put (keyL k) (.lit (.int .i64 (f k : Int)))).atKey (keyL x) (.lit (.int .i64 0)) = .lit (.int .i64 (f x : Int)) := fun x hx => by
    by_cases e : x = k
    · subst e; rw [Maps.atKey_put_same hmap (klaw.key hkk)]
    · rw [Maps.atKey_put_other (fun e2 => e (keyL_inj hx hk e2))]; exact hD x hx
  have hD2 : ∀ x, KeyOk x → (D.put (keyL k) (.lit (.int .i64 ((f k : Int) + 1)))).atKey (keyL x) (.lit (.int .i64 0)) = .lit (.int .i64 (bump f k x : Int)) := fun x hx => by
    by_cases e : x = k
    · subst e; rw [Maps.atKey_put_same hmap (klaw.key hkk)]; simp [bump]
    · rw [Maps.atKey_put_other (fun e2 => e (keyL_inj hx hk e2)), hD x hx]; simp [bump, e]
  refine ⟨.int .i64 (f k : Int), st, W1, W2, (Fr.refl _ _).grown gr1 (fun i hi => .inl (by simpa using hi.symm)), (Fr.refl _ _).grown gr2 (fun i hi => .inl (by simpa using hi.symm)), ⟨_, o2, hD2⟩, by rw [l1, ec], by rw [h1, ew1]; rfl, ?_, by rw [← z1]; exact s1⟩
  obtain ⟨c', m1, m2, _⟩ := o1.lookup_int klaw Tryd.underlying115 Tryd.underlying3 (zeroInt _) hkk
  have : c' = (f k : Int) := by rw [hD1 k hk] at m2; simpa using m2.symm
  rw [m1, this]

theorem IsM.drewN {W : World} {g n : Nat} {f : List Int → Nat} (h : IsM W g n f) (d : Nat) : IsM (W.drewN d) g n f := h
/-- What a key's count is, looked up. -/
theorem IsM.look {W : World} {g n : Nat} {f : List Int → Nat} {k : List Int} (h : IsM W g n f) (hk : KeyOk k) :
    (Instr.lookup 115 (.map (some g)) (keyV k) false).run Tryd.prog W = .ok (.int .i64 (f k : Int)) W := by
  obtain ⟨D, hown, hD⟩ := h
  obtain ⟨c, l1, l2, l3⟩ := hown.lookup_int klaw Tryd.underlying115 Tryd.underlying3 (zeroInt _) (keyOfK hk)
  rw [hD k hk] at l2
  have : c = (f k : Int) := by simpa using l2.symm
  rw [l1, this]
end Go.Proofs.YtlagkfiafelnnaaDoor
