/- A map from three bytes to a place, that a call makes itself: how it is looked up and written, as a plain function of the three bytes. -/
import Derived.Test.YtpjjiighojkagaaPie
import Derived.Maps.OwnSet
import Derived.Maps.Views
import Derived.DeepKeys4
import Derived.WideKeyArr
set_option linter.unusedVariables false
set_option linter.unusedSimpArgs false
namespace Go.Proofs.Ytpjjiighojkagaa
open Go.RowKit Go.Maps Go.WideMaps Go.Proofs.YtpjjiighojkagaaW.PrintWords

theorem arr3 : ArrKey Try.prog 72 5 3 := ⟨Try.underlying72, by kernel_rfl, by kernel_rfl, by kernel_rfl⟩
theorem klaw : Keyed Try.prog 72 := Keyed.of_law arr3.law
theorem zeroInt (w : World) : (zeroValue 3).run Try.prog w = .ok (.int .i64 0) w := by kernel_rfl

def V3 (a b c : Int) : Value := .agg #[.int .u8 a, .int .u8 b, .int .u8 c]
def K3 (a b c : Int) : Lit := .string (keyBytes [.int .u8 a, .int .u8 b, .int .u8 c])
def Byte (a : Int) : Prop := 0 ≤ a ∧ a < 256
theorem Byte.wf {a : Int} (h : Byte a) : (Lit.int .u8 a).wf = true := by have h1 := h.1; have h2 := h.2; simp [Lit.wf, IntKind.min, IntKind.max, IntKind.signed, IntKind.bits]; omega

theorem keyOf3 {a b c : Int} (ha : Byte a) (hb : Byte b) (hc : Byte c) : keyOf Try.prog 72 (V3 a b c) = some (K3 a b c) := by
  have hsz : ∃ m, Try.prog.types.size = m + 1 := ⟨Try.prog.types.size - 1, by kernel_rfl⟩
  have hkt := arr3.keyType hsz
  obtain ⟨m, hm⟩ := hsz
  unfold keyOf
  simp only [arr3.hu]
  rw [if_pos (by simp [hkt, V3, Value.formed, arr3.hu, arr3.size]), hm]
  unfold Program.keyLits
  simp only [arr3.hu, Value.cells, V3]
  rw [if_pos (by rw [arr3.size]; rfl), show List.range 3 = [0, 1, 2] from rfl, List.mapM_cons, List.mapM_cons, List.mapM_cons, List.mapM_nil]
  simp [arr3.one, Program.keyLits, Try.underlying5, ha.wf, hb.wf, hc.wf, K3]

theorem K3_inj {a b c a' b' c' : Int} (ha : Byte a) (hb : Byte b) (hc : Byte c) (ha' : Byte a') (hb' : Byte b') (hc' : Byte c') (h : K3 a b c = K3 a' b' c') : a = a' ∧ b = b' ∧ c = c' := by
  have h1 := keyOf3 ha hb hc
  rw [h] at h1
  have := klaw.inj h1 (keyOf3 ha' hb' hc')
  simpa [V3] using this

/-- Block g is a map of at most n entries; f says what stands at three bytes. -/
def IsM (W : World) (g n : Nat) (f : Int → Int → Int → Option Nat) : Prop :=
  ∃ D : DataW Unit, W.ownsMap Try.prog 72 (plainElem Try.prog 3) g n D ∧ ∀ a b c, Byte a → Byte b → Byte c → Maps.has D (K3 a b c) = (f a b c).isSome ∧ ∀ q, f a b c = some q → D.atKey (K3 a b c) (.lit (.int .i64 0)) = .lit (.int .i64 (q : Int))

def upd (f : Int → Int → Int → Option Nat) (a b c : Int) (q : Nat) : Int → Int → Int → Option Nat := fun x y z => if x = a ∧ y = b ∧ z = c then some q else f x y z

theorem IsM.made (W : World) : IsM (W.alloc (.map #[] 0)) W.heap.size 0 (fun _ _ _ => none) := by
  refine ⟨.map [], World.ownsMap_made _ _ _ _, fun a b c _ _ _ => ⟨rfl, fun q h => by simp at h⟩⟩
theorem IsM.fr {S : Nat → Prop} {W W1 : World} {g n : Nat} {f : Int → Int → Int → Option Nat} (h : IsM W g n f) (hf : Fr S W W1) (hn : ¬ S g) : IsM W1 g n f := by
  obtain ⟨D, ⟨es, cl, hb, r⟩, hD⟩ := h
  exact ⟨D, ⟨es, cl, hf.heap hb hn, r⟩, hD⟩
theorem IsM.lt {W : World} {g n : Nat} {f : Int → Int → Int → Option Nat} (h : IsM W g n f) : g < W.heap.size := by
  obtain ⟨D, ⟨es, cl, hb, r⟩, hD⟩ := h
  exact blk_lt hb
theorem IsM.ne {W : World} {g g' n : Nat} {f : Int → Int → Int → Option Nat} {cs : Array Value} {t : TypeId} (h : IsM W g n f) (hb' : W.heap[g']? = some (.cells cs t (0, 0))) : g' ≠ g := by
  obtain ⟨D, ⟨es, cl, hb, r⟩, hD⟩ := h
  intro e
  rw [e, hb] at hb'
  simp at hb'

section
variable {w : World} {ops : Array Oper} {rest : List Oper} {o : Oper} {a : Act} {Q : Exit → Act → World → Prop}

theorem isM_lookup {g n : Nat} {f : Int → Int → Int → Option Nat} {x y z : Int} (hg : o.guard = none) (m k : Operand) (hop : o.op = Op.lookup 70 m k true) (hm : a.eval m = .map (some g)) (h : IsM w g n f)
    (hx : Byte x) (hy : Byte y) (hz : Byte z) (hk : a.eval k = .agg #[.int .u8 x, .int .u8 y, .int .u8 z]) (hK : wpList Try.prog ops Q rest (a.put o.dst (.tuple #[.int .i64 (((f x y z).getD 0 : Nat) : Int), .bool (f x y z).isSome])) w) :
    wpList Try.prog ops Q (o :: rest) a w := by
  obtain ⟨D, hown, hD⟩ := h
  obtain ⟨h1, h2⟩ := hD x y z hx hy hz
  refine wpList_lookup_own_ok_int w hg m k 70 hop 72 3 .i64 klaw Try.underlying70 Try.underlying3 (zeroInt _) g n D hm hown (V3 x y z) (K3 x y z) hk (keyOf3 hx hy hz) ?_
  intro c hc _
  rw [h1]
  have : c = (((f x y z).getD 0 : Nat) : Int) := by
    cases hf : f x y z with
    | none =>
      rw [hf] at h1
      rw [Maps.atKey_of_not_has h1] at hc
      simp at hc
      simp [← hc]
    | some q =>
      rw [h2 q hf] at hc
      simp at hc
      simp [← hc]
  rw [this]
  exact hK

theorem isM_store {g n q : Nat} {f : Int → Int → Int → Option Nat} {x y z : Int} (hg : o.guard = none) (m k v : Operand) (hop : o.op = Op.mapUpdate 70 m k v) (hm : a.eval m = .map (some g)) (h : IsM w g n f) (hn : n < 9223372036854775807)
    (hx : Byte x) (hy : Byte y) (hz : Byte z) (hk : a.eval k = .agg #[.int .u8 x, .int .u8 y, .int .u8 z]) (hq : (q : Int) < 9223372036854775808) (hv : a.eval v = .int .i64 (q : Int))
    (hK : ∀ w', IsM w' g (n + 1) (upd f x y z q) → w.grownBy w' (some g) → wpList Try.prog ops Q rest (a.put o.dst undef) w') :
    wpList Try.prog ops Q (o :: rest) a w := by
  obtain ⟨D, hown, hD⟩ := h
  have hmap : Maps.IsMap D := by obtain ⟨_, _, _, _, _, e⟩ := hown; exact ⟨_, e⟩
  refine wpList_mapUpdate_own w hg m k v 70 hop 72 3 klaw Try.underlying70 _ g n D hm hown (by simp only [maxLen]; omega) (V3 x y z) (.int .i64 (q : Int)) (K3 x y z) hk hv (keyOf3 hx hy hz) (.lit (.int .i64 (q : Int))) [] (plainElem_int Try.underlying3 (WalkArith.wf_i64 (by omega))) ?_
  intro w' hown' hgr
  refine hK w' ⟨_, hown', fun x' y' z' hx' hy' hz' => ?_⟩ hgr
  by_cases he : x' = x ∧ y' = y ∧ z' = z
  · obtain ⟨rfl, rfl, rfl⟩ := he
    refine ⟨?_, fun q' hq' => ?_⟩
    · rw [Maps.has_put_same hmap (klaw.key (keyOf3 hx hy hz))]
      simp [upd]
    · simp [upd] at hq'
      rw [Maps.atKey_put_same hmap (klaw.key (keyOf3 hx hy hz)), hq']
  · have hne : K3 x' y' z' ≠ K3 x y z := fun e => he (K3_inj hx' hy' hz' hx hy hz e)
    obtain ⟨h1, h2⟩ := hD x' y' z' hx' hy' hz'
    have hu : upd f x y z q x' y' z' = f x' y' z' := by simp [upd, he]
    rw [hu, Maps.has_put_other hne]
    exact ⟨h1, fun q' hq' => by rw [Maps.atKey_put_other hne]; exact h2 q' hq'⟩
end

end Go.Proofs.Ytpjjiighojkagaa
