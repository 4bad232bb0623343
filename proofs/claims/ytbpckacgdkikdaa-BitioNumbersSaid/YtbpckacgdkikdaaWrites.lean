/- BitioWrites: the walk. Whatever is put, each answer, how many bits there are, and the bytes are what the document tells; bytes lie apart. -/
import Derived.Test.YtbpckacgdkikdaaRefW
import Derived.Test.YtbpckacgdkikdaaAwake
import Derived.Test.YtbpckacgdkikdaaPc
import Derived.Test.YtbpckacgdkikdaaApartB
import Derived.Deep.DeepCutAuto
set_option linter.unusedVariables false
set_option linter.unusedSimpArgs false
namespace Go
theorem Proofs.Ytbpckacgdkikdaa.wpAnyH_mono {P : Program} {md : Region.Mode} {ops : Array Oper} {Q : Exit → Act → World → Prop} {S S' : World → Prop} (hS : ∀ w, S' w → S w) :
    ∀ (fuel : Nat) (listed : Array Bool) (a : Act) (w : World), wpAnyH P md ops Q S' fuel listed a w → wpAnyH P md ops Q S fuel listed a w
  | 0, _, _, _, h => h
  | fuel + 1, _, _, _, h => ⟨h.1, fun i hi => wpOp_mono (fun a' w' h' => ⟨hS _ h'.1, Proofs.Ytbpckacgdkikdaa.wpAnyH_mono hS fuel _ a' w' h'.2⟩) (h.2 i hi)⟩
/-- The beginning of a region that draws its order, what follows it behind a letter. -/
theorem Proofs.Ytbpckacgdkikdaa.wp_region_gen {id : Nat} {ops : Array Oper} {P : Program} {Q : Exit → Act → World → Prop} {S : World → Prop} {a : Act} {w : World} (hm : P.follows .mixedOrders = true) (hP : ∀ c (a : Act) (t : Tmp) v w, Q (.panic c) (a.put (some t) v) w → Q (.panic c) a w)
    (h : ∀ Q' : Exit → Act → World → Prop, RowKit.Hid (∀ c (a : Act) (t : Tmp) v w, Q' (.panic c) (a.put (some t) v) w → Q' (.panic c) a w) → RowKit.Hid (∀ a w, Q .normal a w → Q' .normal a w) → wpAnyH P .any ops Q' S ops.size (Array.replicate ops.size false) a { w with drawn := w.drawn + 1 }) :
    (Code.region id ops true).wp P Q a w :=
  wp_region_held hm (h Q hP (fun _ _ h => h))
end Go
namespace Go.Proofs.Ytbpckacgdkikdaa
open Go.RowKit Go.Proofs.YtbpckacgdkikdaaW.PrintWords Bits

/-- The two writers, and bytes that were told between: N, L: what the program's writer holds; l: the document's truths. -/
structure WS (B gw gr : Nat) (vw vr vb : Value) (N L : Nat) (l : List Bool) (nb : Nat) (xb : List Int) (w : World) : Prop where
  iw : IsWr w B gw vw N L
  ir : IsRw w B gr vr l
  ib : w.ownsRow B 5 1 vb nb (xb.map (.int .u8))
  idd : ∀ k, vb.ownBlock = some k → vw.ownBlock ≠ some k
  ss : B ≤ w.heap.size

section
variable {B gw gr : Nat} {vw vr vb : Value} {N L : Nat} {l : List Bool} {nb : Nat} {xb : List Int} {w w' : World}
theorem WS.wput {N' L' : Nat} (h : WS B gw gr vw vr vb N L l nb xb w) (hp : PutPost B gw vw N' L' w w') : ∃ vw', WS B gw gr vw' vr vb N' L' l nb xb w' ∧ Below B w w' := by
  obtain ⟨v', h1, h2, h3⟩ := hp
  have hS : ∀ k, (k = gw ∨ vw.ownBlock = some k) → B ≤ k := fun k hk => hk.elim (fun e => by rw [e]; exact h.iw.2.1) (fun e => own_base h.iw.2.2.2 k e)
  have hgr : ¬ (gr = gw ∨ vw.ownBlock = some gr) := by
    rintro (e | e)
    · exact blk_ne h.ir.1 h.iw.1 (by decide) e
    · obtain ⟨cells, hc⟩ := own_typed h.iw.2.2.2 gr e
      have := h.ir.1
      rw [hc] at this
      simp at this
  have hvr : ∀ k, vr.ownBlock = some k → ¬ (k = gw ∨ vw.ownBlock = some k) := by
    rintro k hk (e | e)
    · obtain ⟨cells, hc⟩ := own_typed h.ir.2.2 k hk
      have := h.iw.1
      rw [← e, hc] at this
      simp at this
    · obtain ⟨cells, hc⟩ := own_typed h.ir.2.2 k hk
      obtain ⟨cells', hc'⟩ := own_typed h.iw.2.2.2 k e
      rw [hc] at hc'
      simp at hc'
  have hvb : ∀ k, vb.ownBlock = some k → ¬ (k = gw ∨ vw.ownBlock = some k) := by
    rintro k hk (e | e)
    · obtain ⟨cells, hc⟩ := own_typed h.ib k hk
      have := h.iw.1
      rw [← e, hc] at this
      simp at this
    · exact h.idd k hk e
  refine ⟨v', ⟨h1, h.ir.fr h2 hgr hvr, h2.own h.ib hvb, fun k hk e => ?_, Nat.le_trans h.ss h2.size⟩, h2.below h.ss hS⟩
  rcases h3 with h3 | h3
  · exact h.idd k hk (by rw [← h3]; exact e)
  · have := h3 k e
    have := own_lt h.ib k hk
    omega
theorem WS.rput {l' : List Bool} {vr' : Value} (h : WS B gw gr vw vr vb N L l nb xb w) (hp : RPut B gr vr l' w vr' w') : WS B gw gr vw vr' vb N L l' nb xb w' ∧ Below B w w' := by
  have h2 := hp.fr
  have hS : ∀ k, (k = gr ∨ vr.ownBlock = some k) → B ≤ k := fun k hk => hk.elim (fun e => by rw [e]; exact h.ir.2.1) (fun e => own_base h.ir.2.2 k e)
  have hgw : ¬ (gw = gr ∨ vr.ownBlock = some gw) := by
    rintro (e | e)
    · exact blk_ne h.iw.1 h.ir.1 (by decide) e
    · obtain ⟨cells, hc⟩ := own_typed h.ir.2.2 gw e
      have := h.iw.1
      rw [hc] at this
      simp at this
  have far : ∀ {n : Nat} {v : Value} {xs : List Value}, w.ownsRow B 5 1 v n xs → ∀ k, v.ownBlock = some k → ¬ (k = gr ∨ vr.ownBlock = some k) := by
    rintro n v xs ho k hk (e | e)
    · obtain ⟨cells, hc⟩ := own_typed ho k hk
      have := h.ir.1
      rw [← e, hc] at this
      simp at this
    · obtain ⟨cells, hc⟩ := own_typed ho k hk
      obtain ⟨cells', hc'⟩ := own_typed h.ir.2.2 k e
      rw [hc] at hc'
      simp at hc'
  exact ⟨⟨h.iw.fr h2 hgw (far h.iw.2.2.2), hp.is, h2.own h.ib (far h.ib), h.idd, Nat.le_trans h.ss h2.size⟩, h2.below h.ss hS⟩
theorem WS.below (h : WS B gw gr vw vr vb N L l nb xb w) (hb : Below w.heap.size w w') : WS B gw gr vw vr vb N L l nb xb w' :=
  have hf := Fr.of_below hb (fun _ => False)
  ⟨h.iw.below hb, h.ir.fr hf (fun h => h) (fun _ _ h => h), pw_own_below h.ib hb, h.idd, Nat.le_trans h.ss hb.size⟩
theorem WS.newb {v : Value} {n : Nat} {xs : List Int} (h : WS B gw gr vw vr vb N L l nb xb w) (hb : Below w.heap.size w w') (ho : w'.ownsRow w.heap.size 5 1 v n (xs.map (.int .u8))) : WS B gw gr vw vr v N L l n xs w' :=
  have h2 := h.below hb
  ⟨h2.iw, h2.ir, own_less ho h.ss, fun k hk e => by have := own_base ho k hk; have := own_lt h.iw.2.2.2 k e; omega, h2.ss⟩
theorem WS.turn {zs : List Int} (h : WS B gw gr vw vr vb N L l nb xb w) (hf : Fr (fun k => vb.ownBlock = some k) w w') (ho : w'.ownsRow B 5 1 vb nb (zs.map (.int .u8))) : WS B gw gr vw vr vb N L l nb zs w' ∧ Below B w w' := by
  have ne : ∀ {g : Nat} {cs : Array Value} {t : TypeId}, w.heap[g]? = some (.cells cs t (0, 0)) → 5 ≠ t → ¬ vb.ownBlock = some g := by
    intro g cs t hg hne e
    obtain ⟨cells, hc⟩ := own_typed h.ib g e
    rw [hg] at hc
    simp at hc
    exact hne hc.2.symm
  refine ⟨⟨h.iw.fr hf (ne h.iw.1 (by decide)) (fun k hk e => h.idd k e hk), h.ir.fr hf (ne h.ir.1 (by decide)) (fun k hk e => ?_), ho, h.idd, Nat.le_trans h.ss hf.size⟩, hf.below h.ss (fun k hk => own_base h.ib k hk)⟩
  obtain ⟨cells, hc⟩ := own_typed h.ib k e
  obtain ⟨cells', hc'⟩ := own_typed h.ir.2.2 k hk
  rw [hc] at hc'
  simp at hc'
end

/-- May a length be? -/
def okN (n : Int) : Bool := decide (0 ≤ n ∧ n ≤ 32)
def nextT (l : List Bool) (v n : Int) : List Bool := if okN n then l ++ tru v.toNat n.toNat else l
theorem nextT_len (l : List Bool) (v n : Int) : (nextT l v n).length ≤ l.length + 32 := by
  unfold nextT
  split
  · rename_i h
    simp only [okN, decide_eq_true_eq] at h
    rw [List.length_append, tru_length]
    omega
  · omega
theorem putAll (B g : Nat) (v : Value) (l : List Bool) (x n : Int) (W : World) (hx0 : 0 ≤ x) (hx : x < 4294967296) (hL : l.length ≤ 8000000) (h : IsWr W B g v (ofT l) l.length) (hb : B ≤ W.heap.size) :
    Calls Try.prog 15 #[.pointer (some ⟨g, 0, none⟩), .int .u32 x, .int .i64 n] W fun e W' => e = .returned (.bool (okN n)) ∧ PutPost B g v (ofT (nextT l x n)) (nextT l x n).length W W' := by
  by_cases hn : 0 ≤ n ∧ n ≤ 32
  · have h1 : okN n = true := decide_eq_true hn
    refine (put_any B g v _ _ x n W hn.1 hn.2 hx0 hx hL h hb).mono fun e W' ⟨he, hp⟩ => ?_
    unfold nextT
    rw [h1, if_pos rfl, ofT_puts, List.length_append, tru_length]
    exact ⟨he, hp⟩
  · have h1 : okN n = false := decide_eq_false hn
    refine (put_no g true x n W (by omega) ((blk_cell h.1 0).trans rfl)).mono fun e W' ⟨he, hp⟩ => ?_
    unfold nextT
    rw [h1, if_neg (by decide), ← hp]
    exact ⟨he, v, h, Fr.refl _ _, .inl rfl⟩
theorem rputAll (B g : Nat) (v : Value) (l : List Bool) (x n : Int) (W : World) (hx0 : 0 ≤ x) (hx : x < 4294967296) (hL : l.length ≤ 8000000) (h : IsRw W B g v l) (hb : B ≤ W.heap.size) :
    Calls Try.prog 21 #[.pointer (some ⟨g, 0, none⟩), .int .u32 x, .int .i64 n] W fun e W' => e = .returned (.bool (okN n)) ∧ ∃ v', RPut B g v (nextT l x n) W v' W' := by
  by_cases hn : 0 ≤ n ∧ n ≤ 32
  · have h1 : okN n = true := decide_eq_true hn
    refine (rput_any B g v l x n W hn.1 hn.2 hx0 hx hL h hb).mono fun e W' ⟨he, hp⟩ => ?_
    unfold nextT
    rw [h1, if_pos rfl]
    exact ⟨he, hp⟩
  · have h1 : okN n = false := decide_eq_false hn
    refine (rput_no g x n W (by omega)).mono fun e W' ⟨he, hp⟩ => ?_
    unfold nextT
    rw [h1, if_neg (by decide), ← hp]
    exact ⟨he, v, h, Fr.refl _ _, .inl rfl⟩

def algT (l : List Bool) (al : Bool) : List Bool := if al then l ++ List.replicate ((8 - l.length % 8) % 8) false else l
theorem algT_len (l : List Bool) (al : Bool) : (algT l al).length ≤ l.length + 7 := by
  unfold algT
  split
  · rw [List.length_append, List.length_replicate]; omega
  · omega

def three {α : Type} (x y z : α) (k : Nat) : α := if k = 0 then x else if k = 1 then y else z
theorem flat_three {Zo : Nat → Prop} {w : World} {B n1 n2 n3 : Nat} {v1 v2 v3 : Value} {x1 x2 x3 : List Value} (h1 : w.ownsRow B 5 1 v1 n1 x1) (h2 : w.ownsRow B 5 1 v2 n2 x2) (h3 : w.ownsRow B 5 1 v3 n3 x3)
    (d12 : ∀ b, v1.ownBlock = some b → v2.ownBlock ≠ some b) (d13 : ∀ b, v1.ownBlock = some b → v3.ownBlock ≠ some b) (d23 : ∀ b, v2.ownBlock = some b → v3.ownBlock ≠ some b)
    (z1 : ∀ b, v1.ownBlock = some b → ¬ Zo b) (z2 : ∀ b, v2.ownBlock = some b → ¬ Zo b) (z3 : ∀ b, v3.ownBlock = some b → ¬ Zo b) (hzl : ∀ b, Zo b → b < w.heap.size) :
    FlatV Zo w B 3 (three v1 v2 v3) (three n1 n2 n3) (three x1 x2 x3) := by
  have nb0 : ∀ b, ¬ (nilS).ownBlock = some b := fun b h => by simp [nilS, Value.ownBlock] at h
  refine ⟨fun k hk => ?_, fun k hk => World.ownsRow_nil _ _ _ _, fun i j b hi hj hij hb hb' => ?_, fun k b hk hb => ?_, hzl⟩
  · match k, hk with
    | 0, _ => exact h1
    | 1, _ => exact h2
    | 2, _ => exact h3
  rotate_left
  · have hb1 := hb.elim id (fun h => absurd h (nb0 b))
    match k, hk with
    | 0, _ => exact z1 b hb1
    | 1, _ => exact z2 b hb1
    | 2, _ => exact z3 b hb1
  · have nb : ∀ b, ¬ (nilS).ownBlock = some b := fun b h => by simp [nilS, Value.ownBlock] at h
    have hb1 := hb.elim id (fun h => absurd h (nb b))
    have hb2 := hb'.elim id (fun h => absurd h (nb b))
    match i, j, hi, hj with
    | 0, 0, _, _ => exact hij rfl
    | 0, 1, _, _ => exact d12 b hb1 hb2
    | 0, 2, _, _ => exact d13 b hb1 hb2
    | 1, 0, _, _ => exact d12 b hb2 hb1
    | 1, 1, _, _ => exact hij rfl
    | 1, 2, _, _ => exact d23 b hb1 hb2
    | 2, 0, _, _ => exact d13 b hb2 hb1
    | 2, 1, _, _ => exact d23 b hb2 hb1
    | 2, 2, _, _ => exact hij rfl

/-- The blocks of the two writers. -/
def WZ (gw gr : Nat) (vw vr : Value) (k : Nat) : Prop := k = gw ∨ vw.ownBlock = some k ∨ k = gr ∨ vr.ownBlock = some k
theorem WS.zl {B gw gr : Nat} {vw vr vb : Value} {N L : Nat} {l : List Bool} {nb : Nat} {xb : List Int} {w : World} (h : WS B gw gr vw vr vb N L l nb xb w) : ∀ b, WZ gw gr vw vr b → b < w.heap.size := by
  rintro b (e | e | e | e)
  · rw [e]; exact h.iw.lt
  · exact own_lt h.iw.2.2.2 b e
  · rw [e]; exact blk_lt h.ir.1
  · exact own_lt h.ir.2.2 b e
theorem WS.zb {B gw gr : Nat} {vw vr vb : Value} {N L : Nat} {l : List Bool} {nb : Nat} {xb : List Int} {w : World} (h : WS B gw gr vw vr vb N L l nb xb w) : ∀ b, vb.ownBlock = some b → ¬ WZ gw gr vw vr b := by
  rintro b hb (e | e | e | e)
  · obtain ⟨cells, hc⟩ := own_typed h.ib b hb
    have := h.iw.1
    rw [← e, hc] at this
    simp at this
  · exact h.idd b hb e
  · obtain ⟨cells, hc⟩ := own_typed h.ib b hb
    have := h.ir.1
    rw [← e, hc] at this
    simp at this
  · obtain ⟨cells, hc⟩ := own_typed h.ib b hb
    obtain ⟨cells', hc'⟩ := own_typed h.ir.2.2 b e
    rw [hc] at hc'
    simp at hc'
theorem IsWr.kept {Zo : Nat → Prop} {B base g : Nat} {v : Value} {N L : Nat} {w w' : World} (h : IsWr w base g v N L) (k : KeptZ Zo B w w') (h1 : Zo g) (h2 : ∀ b, v.ownBlock = some b → Zo b) : IsWr w' base g v N L :=
  ⟨(k.z g h1).trans h.1, h.2.1, h.2.2.1, own_move h.2.2.2 (fun b hb => k.z b (h2 b hb))⟩
theorem IsRw.kept {Zo : Nat → Prop} {B base g : Nat} {v : Value} {l : List Bool} {w w' : World} (h : IsRw w base g v l) (k : KeptZ Zo B w w') (h1 : Zo g) (h2 : ∀ b, v.ownBlock = some b → Zo b) : IsRw w' base g v l :=
  ⟨(k.z g h1).trans h.1, h.2.1, own_move h.2.2 (fun b hb => k.z b (h2 b hb))⟩

theorem byts_len (N L : Nat) : (byts N L).length = (L + 7) / 8 := leb_length _ _

def WRel (W : World) (B gw gr : Nat) (n gk : Nat) (v5 v6 : Value) (wr : World) : Prop :=
  ∃ (i : Nat) (vw vr : Value) (l : List Bool) (nb : Nat) (xb : List Int), Hid (gk + i = n) ∧ v6 = .int .i64 (i : Int) ∧ Hid (WS B gw gr vw vr v5 (ofT l) l.length l nb xb wr) ∧ Hid (Below B W wr) ∧ Hid (l.length ≤ 39 * i ∧ i ≤ 300) ∧ Hid (nb ≤ 1000000)

set_option maxHeartbeats 4000000 in
set_option maxRecDepth 100000 in
theorem writes_walk (vl : Value) (ps : List Pc) (W : World) (hl : RdsP W vl ps) :
    Calls Try.prog 4 #[vl] W fun e W' => e = .returned (.bool true) ∧ Below W.heap.size W W' := by
  obtain ⟨B, hB⟩ : ∃ B, B = W.heap.size := ⟨_, rfl⟩
  rw [← hB]
  have HBW := Lib.hid hB
  clear hB
  have hl0 := hl
  obtain ⟨A, c, rfl, hc1, hc2, hc3, hok, _⟩ := hl
  have hcl : ps.length ≤ 9223372036854775807 := by omega
  have HRD := Lib.hid hl0
  have HOK := Lib.hid hok
  clear hl0 hc1 hc2 hc3 hok
  go_enter Try.func4, Try.ntmps4
  go_wp2_with fail
  refine (newWriter_any _ B (by rw [HBW.out]; exact Nat.le_refl _)).mono ?_
  rintro e w1 ⟨gw, rfl, h1, b1, _⟩
  have s1 : B ≤ w1.heap.size := by rw [HBW.out]; exact b1.size
  rw [← HBW.out] at b1
  go_upto_region 2 with fail
  obtain ⟨gr, hgr⟩ : ∃ gr, gr = w1.heap.size := ⟨_, rfl⟩
  rw [← hgr]
  generalize hW2 : w1.alloc _ = w2
  have f2 : Fr (fun _ => False) w1 w2 := by rw [← hW2]; exact (Fr.refl _ _).alloc _
  have hr2 : IsRw w2 B gr (.slice none 0 0) [] := ⟨by rw [← hW2, hgr]; exact heap_alloc_new w1 _, by omega, World.ownsRow_nil _ _ _ _⟩
  have X2 : WS B gw gr (.slice none 0 0) (.slice none 0 0) (.slice none 0 0) 0 0 [] 0 [] w2 := ⟨h1.fr f2 (fun h => h) (fun _ _ h => h), hr2, World.ownsRow_nil _ _ _ _, fun k hk => by simp [Value.ownBlock] at hk, Nat.le_trans s1 f2.size⟩
  have bb2 : Below B W w2 := Fr.then_below b1 f2 s1 (fun _ h => h.elim)
  have HX2 := Lib.hid X2
  have HBB2 := Lib.hid bb2
  clear hW2 f2 hr2 X2 bb2 h1 b1 s1 hgr
  go_wp2_with fail
  go_loopg [5, 6] ps.length (fun gk v5 v6 wr => WRel W B gw gr ps.length gk v5 v6 wr)
  case atStart => exact ⟨0, _, _, [], 0, [], by simp [Hid], rfl, HX2.out, HBB2.out, ⟨by simp, by omega⟩, by simp [Hid]⟩
  case round =>
    clear HX2 HBB2
    obtain ⟨i, vw, vr, l, nb, xb, HG, rfl, HX, HBB, HLL, HNB⟩ := hrel
    by_cases hlt : i < ps.length ∧ i < 300
    · obtain ⟨hlt, hlt3⟩ := hlt
      obtain ⟨bq, oq, rfl, hblt, hcells⟩ := (HRD.out.below (by rw [← HBW.out]; exact HBB.out)).old (by omega)
      have hbqB : bq < B := by
        obtain ⟨b', o', hA2, hb', _⟩ := HRD.out.old (by omega)
        have : bq = b' ∧ oq = o' := by simpa using hA2
        have := HBW.out
        omega
      have HBQ : Hid (bq + 1 ≤ B) := hbqB
      obtain ⟨q0, q1, q2⟩ := hcells i hlt
      have hpok := HOK.out ps[i] (List.getElem_mem hlt)
      obtain ⟨px0, px1, _, _⟩ := hpok
      clear hcells hblt
      have t0 : (i : Int) < (ps.length : Int) := by omega
      have t1 : (i : Int) < 300 := by omega
      have d2 : decide (i < ps.length) = true := decide_eq_true hlt
      have d3 : decide (i < 300) = true := decide_eq_true hlt3
      obtain ⟨pv, hpv⟩ : ∃ pv, pv = ps[i].v := ⟨_, rfl⟩
      obtain ⟨pn, hpn⟩ : ∃ pn, pn = ps[i].n := ⟨_, rfl⟩
      obtain ⟨pal, hpal⟩ : ∃ pal, pal = ps[i].al := ⟨_, rfl⟩
      rw [← hpv] at q0 px0 px1
      rw [← hpn] at q1
      rw [← hpal] at q2
      have HPV := Lib.hid hpv
      have HPN := Lib.hid hpn
      clear hpv hpn hpal
      have hll := HLL.out.1
      go_upto_if 26 with fail
      go_cut [5] (fun v5 wx => ∃ vw' vr', v5 = u5 ∧ Hid (WS B gw gr vw' vr' u5 (ofT (algT l pal)) (algT l pal).length (algT l pal) nb xb wx) ∧ Hid (Below B W wx))
      case first =>
        cases pal
        · go_wp2_with fail
          go_meet
          exact ⟨vw, vr, rfl, HX, HBB⟩
        · go_wp2_with fail
          refine (align_any B gw vw (ofT l) l.length _ (by omega) HX.out.iw HX.out.ss).mono ?_
          rintro e w3 ⟨rfl, hp⟩
          obtain ⟨vw3, X3, bb3⟩ := HX.out.wput hp
          have HX3 := Lib.hid X3
          have HBB3 := Lib.hid (HBB.out.trans bb3)
          clear hp X3 bb3
          go_wp2_with fail
          refine (rwalign_any B gr vr l _ (by omega) HX3.out.ir HX3.out.ss).mono ?_
          rintro e w4 ⟨rfl, vr4, hp⟩
          obtain ⟨X4, bb4⟩ := HX3.out.rput hp
          have HX4 : Hid (WS B gw gr vw3 vr4 u5 (ofT (algT l true)) (algT l true).length (algT l true) nb xb w4) := by
            have e1 : algT l true = l ++ List.replicate ((8 - l.length % 8) % 8) false := rfl
            simp only [Hid]
            rw [e1, ofT_falses, List.length_append, List.length_replicate, show l.length + (8 - l.length % 8) % 8 = (l.length + 7) / 8 * 8 from by omega]
            exact X4
          have HBB4 := Lib.hid (HBB3.out.trans bb4)
          clear hp X4 bb4
          go_wp2_with fail
          go_meet
          exact ⟨vw3, vr4, rfl, HX4, HBB4⟩
      case rest =>
      clear q0 q1 q2 HX HBB
      obtain ⟨vw1, vr1, rfl, HX1, HBB1⟩ := hcut
      obtain ⟨l1, hl1⟩ : ∃ l1, l1 = algT l pal := ⟨_, rfl⟩
      rw [← hl1] at HX1
      have hl1b : l1.length ≤ l.length + 7 := by rw [hl1]; exact algT_len _ _
      obtain ⟨l2, hl2⟩ : ∃ l2, l2 = nextT l1 pv pn := ⟨_, rfl⟩
      have hl2b : l2.length ≤ l1.length + 32 := by rw [hl2]; exact nextT_len _ _ _
      obtain ⟨ok, hok⟩ : ∃ ok, ok = okN pn := ⟨_, rfl⟩
      have hll2 : l2.length ≤ 39 * (i + 1) := by omega
      have HLN : Hid (l2.length ≤ 39 * (i + 1)) := hll2
      have HL2 : Hid (l2.length ≤ 8000000) := by simp only [Hid]; omega
      have HPUT := Lib.hid (fun q : Nat => putAll B gw vw1 l1 pv pn (wc.drewN q) px0 px1 (by omega) HX1.out.iw HX1.out.ss)
      have HRPUT := Lib.hid (fun (w : World) (h : IsRw w B gr vr1 l1) (hs : B ≤ w.heap.size) => rputAll B gr vr1 l1 pv pn w px0 px1 (by omega) h hs)
      rw [← hl2, ← hok] at HPUT HRPUT
      obtain ⟨b2, o2, hA2, _, hcells⟩ := (HRD.out.below (by rw [← HBW.out]; exact HBB1.out)).old (by omega)
      obtain ⟨rfl, rfl⟩ : bq = b2 ∧ oq = o2 := by simpa using hA2
      obtain ⟨q0, q1, _⟩ := hcells i hlt
      rw [← HPV.out] at q0
      rw [← HPN.out] at q1
      have HWS : Hid (WS B gw gr vw1 vr1 u5 (ofT l1) l1.length l1 nb xb (wc.drewN 1)) := ⟨HX1.out.iw, HX1.out.ir, HX1.out.ib, HX1.out.idd, HX1.out.ss⟩
      have HBWC : Hid (Below B W (wc.drewN 1)) := pw_below_drewN HBB1.out 1
      clear hcells hA2 hl1 hl2 hok hl1b hl2b hll2 HX1 HBB1 hll HLL
      have e1 : (ok != ok) = false := by simp
      go_wp2_with fail
      refine wp_region_gen (S := fun w' => w'.cell? ⟨bq, oq + i * 3, none⟩ = some (.int .u32 pv) ∧ w'.cell? ⟨bq, oq + i * 3 + 1, none⟩ = some (.int .i64 pn)) (by kernel_rfl) (fun _ _ _ _ _ h => h) ?_
      intro Q' HQP HQN
      change wpAnyH _ _ _ _ _ _ _ _ (wc.drewN 1)
      have hS : (fun w' : World => w'.cell? ⟨bq, oq + i * 3, none⟩ = some (.int .u32 pv) ∧ w'.cell? ⟨bq, oq + i * 3 + 1, none⟩ = some (.int .i64 pn)) (wc.drewN 1) := ⟨q0, q1⟩
      refine wpAnyH_take (i := 0) (oi := ⟨some 31, _, _, _, _, none⟩) (v := ?_) rfl (by kernel_rfl) (by kernel_rfl) (by kernel_rfl) (fun c _ w h => HQP.out c _ _ _ w h) (Or.inl ⟨by rfl, ?v0⟩) hS ?_
      case v0 => (intro w hSw; (try dsimp only at hSw); obtain ⟨s0, s1⟩ := hSw; go_simp; try with_reducible rfl)
      try simp only [Act.put, List.setIfInBounds_toArray, List.set_cons_zero, List.set_cons_succ]
      refine wpAnyH_take (i := 1) (oi := ⟨some 32, _, _, _, _, none⟩) (v := ?_) rfl (by kernel_rfl) (by kernel_rfl) (by kernel_rfl) (fun c _ w h => HQP.out c _ _ _ w h) (Or.inl ⟨by rfl, ?v1⟩) hS ?_
      case v1 => (intro w hSw; (try dsimp only at hSw); obtain ⟨s0, s1⟩ := hSw; go_simp; try with_reducible rfl)
      try simp only [Act.put, List.setIfInBounds_toArray, List.set_cons_zero, List.set_cons_succ]
      refine wpAnyH_take (i := 2) (oi := ⟨some 33, _, _, _, _, none⟩) (v := ?_) rfl (by kernel_rfl) (by kernel_rfl) (by kernel_rfl) (fun c _ w h => HQP.out c _ _ _ w h) (Or.inl ⟨by rfl, ?v2⟩) hS ?_
      case v2 => (intro w hSw; (try dsimp only at hSw); obtain ⟨s0, s1⟩ := hSw; go_simp; try with_reducible rfl)
      try simp only [Act.put, List.setIfInBounds_toArray, List.set_cons_zero, List.set_cons_succ]
      refine wpAnyH_take (i := 3) (oi := ⟨some 34, _, _, _, _, none⟩) (v := ?_) rfl (by kernel_rfl) (by kernel_rfl) (by kernel_rfl) (fun c _ w h => HQP.out c _ _ _ w h) (Or.inl ⟨by rfl, ?v3⟩) hS ?_
      case v3 => (intro w hSw; (try dsimp only at hSw); obtain ⟨s0, s1⟩ := hSw; go_simp; try with_reducible rfl)
      try simp only [Act.put, List.setIfInBounds_toArray, List.set_cons_zero, List.set_cons_succ]
      refine wpAnyH_take (i := 4) (oi := ⟨some 35, _, _, _, _, none⟩) (v := ?_) rfl (by kernel_rfl) (by kernel_rfl) (by kernel_rfl) (fun c _ w h => HQP.out c _ _ _ w h) (Or.inl ⟨by rfl, ?v4⟩) hS ?_
      case v4 => (intro w hSw; (try dsimp only at hSw); obtain ⟨s0, s1⟩ := hSw; go_simp; try with_reducible rfl)
      try simp only [Act.put, List.setIfInBounds_toArray, List.set_cons_zero, List.set_cons_succ]
      refine wpAnyH_take (i := 5) (oi := ⟨some 36, _, _, _, _, none⟩) (v := ?_) rfl (by kernel_rfl) (by kernel_rfl) (by kernel_rfl) (fun c _ w h => HQP.out c _ _ _ w h) (Or.inl ⟨by rfl, ?v5⟩) hS ?_
      case v5 => (intro w hSw; (try dsimp only at hSw); obtain ⟨s0, s1⟩ := hSw; go_simp; try with_reducible rfl)
      try simp only [Act.put, List.setIfInBounds_toArray, List.set_cons_zero, List.set_cons_succ]
      refine wpAnyH_take (i := 6) (oi := ⟨some 37, _, _, _, _, none⟩) (v := ?_) rfl (by kernel_rfl) (by kernel_rfl) (by kernel_rfl) (fun c _ w h => HQP.out c _ _ _ w h) (Or.inl ⟨by rfl, ?v6⟩) hS ?_
      case v6 => (intro w hSw; (try dsimp only at hSw); obtain ⟨s0, s1⟩ := hSw; go_simp; try with_reducible rfl)
      try simp only [Act.put, List.setIfInBounds_toArray, List.set_cons_zero, List.set_cons_succ]
      refine wpAnyH_take (i := 7) (oi := ⟨some 38, _, _, _, _, none⟩) (v := ?_) rfl (by kernel_rfl) (by kernel_rfl) (by kernel_rfl) (fun c _ w h => HQP.out c _ _ _ w h) (Or.inl ⟨by rfl, ?v7⟩) hS ?_
      case v7 => (intro w hSw; (try dsimp only at hSw); obtain ⟨s0, s1⟩ := hSw; go_simp; try with_reducible rfl)
      try simp only [Act.put, List.setIfInBounds_toArray, List.set_cons_zero, List.set_cons_succ]
      refine wpAnyH_take (i := 8) (oi := ⟨some 39, _, _, _, _, none⟩) (v := ?_) rfl (by kernel_rfl) (by kernel_rfl) (by kernel_rfl) (fun c _ w h => HQP.out c _ _ _ w h) (Or.inl ⟨by rfl, ?v8⟩) hS ?_
      case v8 => (intro w hSw; (try dsimp only at hSw); obtain ⟨s0, s1⟩ := hSw; go_simp; try with_reducible rfl)
      try simp only [Act.put, List.setIfInBounds_toArray, List.set_cons_zero, List.set_cons_succ]
      refine wpAnyH_take (i := 9) (oi := ⟨some 40, _, _, _, _, none⟩) (v := ?_) rfl (by kernel_rfl) (by kernel_rfl) (by kernel_rfl) (fun c _ w h => HQP.out c _ _ _ w h) (Or.inl ⟨by rfl, ?v9⟩) hS ?_
      case v9 => (intro w hSw; (try dsimp only at hSw); obtain ⟨s0, s1⟩ := hSw; go_simp; try with_reducible rfl)
      try simp only [Act.put, List.setIfInBounds_toArray, List.set_cons_zero, List.set_cons_succ]
      refine wpAnyH_take (i := 10) (oi := ⟨some 41, _, _, _, _, none⟩) (v := ?_) rfl (by kernel_rfl) (by kernel_rfl) (by kernel_rfl) (fun c _ w h => HQP.out c _ _ _ w h) (Or.inl ⟨by rfl, ?v10⟩) hS ?_
      case v10 => (intro w hSw; (try dsimp only at hSw); obtain ⟨s0, s1⟩ := hSw; go_simp; try with_reducible rfl)
      try simp only [Act.put, List.setIfInBounds_toArray, List.set_cons_zero, List.set_cons_succ]
      refine wpAnyH_take (i := 12) (oi := ⟨some 43, _, _, _, _, none⟩) (v := ?_) rfl (by kernel_rfl) (by kernel_rfl) (by kernel_rfl) (fun c _ w h => HQP.out c _ _ _ w h) (Or.inl ⟨by rfl, ?v12⟩) hS ?_
      case v12 => (intro w hSw; (try dsimp only at hSw); obtain ⟨s0, s1⟩ := hSw; go_simp; try with_reducible rfl)
      try simp only [Act.put, List.setIfInBounds_toArray, List.set_cons_zero, List.set_cons_succ]
      refine wpAnyH_take (i := 13) (oi := ⟨some 44, _, _, _, _, none⟩) (v := ?_) rfl (by kernel_rfl) (by kernel_rfl) (by kernel_rfl) (fun c _ w h => HQP.out c _ _ _ w h) (Or.inl ⟨by rfl, ?v13⟩) hS ?_
      case v13 => (intro w hSw; (try dsimp only at hSw); obtain ⟨s0, s1⟩ := hSw; go_simp; try with_reducible rfl)
      try simp only [Act.put, List.setIfInBounds_toArray, List.set_cons_zero, List.set_cons_succ]
      refine wpAnyH_take (i := 14) (oi := ⟨some 45, _, _, _, _, none⟩) (v := ?_) rfl (by kernel_rfl) (by kernel_rfl) (by kernel_rfl) (fun c _ w h => HQP.out c _ _ _ w h) (Or.inl ⟨by rfl, ?v14⟩) hS ?_
      case v14 => (intro w hSw; (try dsimp only at hSw); obtain ⟨s0, s1⟩ := hSw; go_simp; try with_reducible rfl)
      try simp only [Act.put, List.setIfInBounds_toArray, List.set_cons_zero, List.set_cons_succ]
      refine wpAnyH_take (i := 15) (oi := ⟨some 46, _, _, _, _, none⟩) (v := ?_) rfl (by kernel_rfl) (by kernel_rfl) (by kernel_rfl) (fun c _ w h => HQP.out c _ _ _ w h) (Or.inl ⟨by rfl, ?v15⟩) hS ?_
      case v15 => (intro w hSw; (try dsimp only at hSw); obtain ⟨s0, s1⟩ := hSw; go_simp; try with_reducible rfl)
      try simp only [Act.put, List.setIfInBounds_toArray, List.set_cons_zero, List.set_cons_succ]
      refine wpAnyH_take (i := 16) (oi := ⟨some 47, _, _, _, _, none⟩) (v := ?_) rfl (by kernel_rfl) (by kernel_rfl) (by kernel_rfl) (fun c _ w h => HQP.out c _ _ _ w h) (Or.inl ⟨by rfl, ?v16⟩) hS ?_
      case v16 => (intro w hSw; (try dsimp only at hSw); obtain ⟨s0, s1⟩ := hSw; go_simp; try with_reducible rfl)
      try simp only [Act.put, List.setIfInBounds_toArray, List.set_cons_zero, List.set_cons_succ]
      refine wpAnyH_take (i := 17) (oi := ⟨some 48, _, _, _, _, none⟩) (v := ?_) rfl (by kernel_rfl) (by kernel_rfl) (by kernel_rfl) (fun c _ w h => HQP.out c _ _ _ w h) (Or.inl ⟨by rfl, ?v17⟩) hS ?_
      case v17 => (intro w hSw; (try dsimp only at hSw); obtain ⟨s0, s1⟩ := hSw; go_simp; try with_reducible rfl)
      try simp only [Act.put, List.setIfInBounds_toArray, List.set_cons_zero, List.set_cons_succ]
      refine wpAnyH_take (i := 18) (oi := ⟨some 49, _, _, _, _, none⟩) (v := ?_) rfl (by kernel_rfl) (by kernel_rfl) (by kernel_rfl) (fun c _ w h => HQP.out c _ _ _ w h) (Or.inl ⟨by rfl, ?v18⟩) hS ?_
      case v18 => (intro w hSw; (try dsimp only at hSw); obtain ⟨s0, s1⟩ := hSw; go_simp; try with_reducible rfl)
      try simp only [Act.put, List.setIfInBounds_toArray, List.set_cons_zero, List.set_cons_succ]
      refine wpAnyH_take (i := 19) (oi := ⟨some 50, _, _, _, _, none⟩) (v := ?_) rfl (by kernel_rfl) (by kernel_rfl) (by kernel_rfl) (fun c _ w h => HQP.out c _ _ _ w h) (Or.inl ⟨by rfl, ?v19⟩) hS ?_
      case v19 => (intro w hSw; (try dsimp only at hSw); obtain ⟨s0, s1⟩ := hSw; go_simp; try with_reducible rfl)
      try simp only [Act.put, List.setIfInBounds_toArray, List.set_cons_zero, List.set_cons_succ]
      refine wpAnyH_take (i := 20) (oi := ⟨some 51, _, _, _, _, none⟩) (v := ?_) rfl (by kernel_rfl) (by kernel_rfl) (by kernel_rfl) (fun c _ w h => HQP.out c _ _ _ w h) (Or.inl ⟨by rfl, ?v20⟩) hS ?_
      case v20 => (intro w hSw; (try dsimp only at hSw); obtain ⟨s0, s1⟩ := hSw; go_simp; try with_reducible rfl)
      try simp only [Act.put, List.setIfInBounds_toArray, List.set_cons_zero, List.set_cons_succ]
      refine wpAnyH_take (i := 21) (oi := ⟨some 52, _, _, _, _, none⟩) (v := ?_) rfl (by kernel_rfl) (by kernel_rfl) (by kernel_rfl) (fun c _ w h => HQP.out c _ _ _ w h) (Or.inl ⟨by rfl, ?v21⟩) hS ?_
      case v21 => (intro w hSw; (try dsimp only at hSw); obtain ⟨s0, s1⟩ := hSw; go_simp; try with_reducible rfl)
      try simp only [Act.put, List.setIfInBounds_toArray, List.set_cons_zero, List.set_cons_succ]
      refine wpAnyH_take (i := 22) (oi := ⟨some 53, _, _, _, _, none⟩) (v := ?_) rfl (by kernel_rfl) (by kernel_rfl) (by kernel_rfl) (fun c _ w h => HQP.out c _ _ _ w h) (Or.inl ⟨by rfl, ?v22⟩) hS ?_
      case v22 => (intro w hSw; (try dsimp only at hSw); obtain ⟨s0, s1⟩ := hSw; go_simp; try with_reducible rfl)
      try simp only [Act.put, List.setIfInBounds_toArray, List.set_cons_zero, List.set_cons_succ]
      refine wpAnyH_ready (rs := [11]) (by kernel_rfl) (by simp) ?_
      refine AllReadyH.cons (o := ⟨some 42, _, _, _, _, none⟩) rfl (fun K hK => ?_) AllReadyH.nil
      rw [if_pos (by rfl)]
      go_wp2_with (go_at_call 15; refine (HPUT.out 1).mono ?_; rintro e w2 ⟨rfl, hp⟩)
      obtain ⟨vw2, X2, bb2⟩ := HWS.out.wput hp
      have q02 := (bb2.cell (p := ⟨bq, oq + i * 3, none⟩) HBQ.out).trans q0
      have q12 := (bb2.cell (p := ⟨bq, oq + i * 3 + 1, none⟩) HBQ.out).trans q1
      have HX2 := Lib.hid X2
      clear hp X2
      clear hS
      have hS : (fun w' : World => w'.cell? ⟨bq, oq + i * 3, none⟩ = some (.int .u32 pv) ∧ w'.cell? ⟨bq, oq + i * 3 + 1, none⟩ = some (.int .i64 pn)) w2 := ⟨q02, q12⟩
      refine hK.out _ _ hS (fun _ => ?_)
      try simp only [Act.put, List.setIfInBounds_toArray, List.set_cons_zero, List.set_cons_succ]
      refine wpAnyH_ready (rs := [23]) (by kernel_rfl) (by simp) ?_
      refine AllReadyH.cons (o := ⟨some 54, _, _, _, _, none⟩) rfl (fun K hK => ?_) AllReadyH.nil
      rw [if_pos (by rfl)]
      go_wp2_with (go_at_call 21; refine (HRPUT.out w2 HX2.out.ir HX2.out.ss).mono ?_; rintro e w3 ⟨rfl, vr3, hp⟩)
      obtain ⟨X3, bb3⟩ := HX2.out.rput hp
      have q03 := (bb3.cell (p := ⟨bq, oq + i * 3, none⟩) HBQ.out).trans q02
      have q13 := (bb3.cell (p := ⟨bq, oq + i * 3 + 1, none⟩) HBQ.out).trans q12
      obtain ⟨Ar, cr, hvr⟩ := own_slice X3.ir.2.2
      have c3 : w3.cell? ⟨gr, 0, none⟩ = some vr3 := (blk_cell X3.ir.1 0).trans rfl
      obtain ⟨m, hm⟩ : ∃ m, m = l2.length := ⟨_, rfl⟩
      rw [hvr, ← hm] at c3
      have HX3 := Lib.hid X3
      have HLEN := Lib.hid (len_any B gw vw2 (ofT l2) l2.length w3 HL2.out X3.iw)
      have HMM := Lib.hid hm
      clear hp X3 hvr hm
      clear hS
      have hS : (fun w' : World => w'.cell? ⟨bq, oq + i * 3, none⟩ = some (.int .u32 pv) ∧ w'.cell? ⟨bq, oq + i * 3 + 1, none⟩ = some (.int .i64 pn)) w3 := ⟨q03, q13⟩
      refine hK.out _ _ hS (fun _ => ?_)
      try simp only [Act.put, List.setIfInBounds_toArray, List.set_cons_zero, List.set_cons_succ]
      refine wpAnyH_take (i := 24) (oi := ⟨some 55, _, _, _, _, none⟩) (v := ?_) rfl (by kernel_rfl) (by kernel_rfl) (by kernel_rfl) (fun c _ w h => HQP.out c _ _ _ w h) (Or.inl ⟨by rfl, ?v24⟩) hS ?_
      case v24 => (intro w hSw; (try dsimp only at hSw); obtain ⟨s0, s1⟩ := hSw; go_simp; try with_reducible rfl)
      try simp only [Act.put, List.setIfInBounds_toArray, List.set_cons_zero, List.set_cons_succ]
      refine wpAnyH_take (i := 25) (oi := ⟨some 56, _, _, _, _, none⟩) (v := ?_) rfl (by kernel_rfl) (by kernel_rfl) (by kernel_rfl) (fun c _ w h => HQP.out c _ _ _ w h) (Or.inl ⟨by rfl, ?v25⟩) hS ?_
      case v25 => (intro w hSw; (try dsimp only at hSw); obtain ⟨s0, s1⟩ := hSw; go_simp; try with_reducible rfl)
      try simp only [Act.put, List.setIfInBounds_toArray, List.set_cons_zero, List.set_cons_succ]
      refine wpAnyH_mono (S' := fun w' => w'.cell? ⟨bq, oq + i * 3, none⟩ = some (.int .u32 pv) ∧ w'.cell? ⟨bq, oq + i * 3 + 1, none⟩ = some (.int .i64 pn) ∧ w'.cell? ⟨gr, 0, none⟩ = some (.slice Ar m cr)) (fun _ h => ⟨h.1, h.2.1⟩) _ _ _ _ ?_
      clear hS
      have hS : (fun w' : World => w'.cell? ⟨bq, oq + i * 3, none⟩ = some (.int .u32 pv) ∧ w'.cell? ⟨bq, oq + i * 3 + 1, none⟩ = some (.int .i64 pn) ∧ w'.cell? ⟨gr, 0, none⟩ = some (.slice Ar m cr)) w3 := ⟨q03, q13, c3⟩
      refine wpAnyH_take (i := 26) (oi := ⟨some 57, _, _, _, _, some (25, false)⟩) (v := ?_) rfl (by kernel_rfl) (by kernel_rfl) (by kernel_rfl) (fun c _ w h => HQP.out c _ _ _ w h) (Or.inl ⟨by rfl, ?v26⟩) hS ?_
      case v26 => (intro w hSw; (try dsimp only at hSw); obtain ⟨s0, s1, s2⟩ := hSw; go_simp; try with_reducible rfl)
      try simp only [Act.put, List.setIfInBounds_toArray, List.set_cons_zero, List.set_cons_succ]
      refine wpAnyH_take (i := 28) (oi := ⟨some 59, _, _, _, _, some (25, false)⟩) (v := ?_) rfl (by kernel_rfl) (by kernel_rfl) (by kernel_rfl) (fun c _ w h => HQP.out c _ _ _ w h) (Or.inl ⟨by rfl, ?v28⟩) hS ?_
      case v28 => (intro w hSw; (try dsimp only at hSw); obtain ⟨s0, s1, s2⟩ := hSw; go_simp; try with_reducible rfl)
      try simp only [Act.put, List.setIfInBounds_toArray, List.set_cons_zero, List.set_cons_succ]
      refine wpAnyH_take (i := 29) (oi := ⟨some 60, _, _, _, _, some (25, false)⟩) (v := ?_) rfl (by kernel_rfl) (by kernel_rfl) (by kernel_rfl) (fun c _ w h => HQP.out c _ _ _ w h) (Or.inl ⟨by rfl, ?v29⟩) hS ?_
      case v29 => (intro w hSw; (try dsimp only at hSw); obtain ⟨s0, s1, s2⟩ := hSw; go_simp; try with_reducible rfl)
      try simp only [Act.put, List.setIfInBounds_toArray, List.set_cons_zero, List.set_cons_succ]
      refine wpAnyH_take (i := 30) (oi := ⟨some 61, _, _, _, _, some (25, false)⟩) (v := ?_) rfl (by kernel_rfl) (by kernel_rfl) (by kernel_rfl) (fun c _ w h => HQP.out c _ _ _ w h) (Or.inl ⟨by rfl, ?v30⟩) hS ?_
      case v30 => (intro w hSw; (try dsimp only at hSw); obtain ⟨s0, s1, s2⟩ := hSw; go_simp; try with_reducible rfl)
      try simp only [Act.put, List.setIfInBounds_toArray, List.set_cons_zero, List.set_cons_succ]
      refine wpAnyH_take (i := 31) (oi := ⟨some 62, _, _, _, _, some (25, false)⟩) (v := ?_) rfl (by kernel_rfl) (by kernel_rfl) (by kernel_rfl) (fun c _ w h => HQP.out c _ _ _ w h) (Or.inl ⟨by rfl, ?v31⟩) hS ?_
      case v31 => (intro w hSw; (try dsimp only at hSw); obtain ⟨s0, s1, s2⟩ := hSw; go_simp; try with_reducible rfl)
      try simp only [Act.put, List.setIfInBounds_toArray, List.set_cons_zero, List.set_cons_succ]
      refine wpAnyH_take (i := 32) (oi := ⟨some 63, _, _, _, _, some (25, false)⟩) (v := ?_) rfl (by kernel_rfl) (by kernel_rfl) (by kernel_rfl) (fun c _ w h => HQP.out c _ _ _ w h) (Or.inl ⟨by rfl, ?v32⟩) hS ?_
      case v32 => (intro w hSw; (try dsimp only at hSw); obtain ⟨s0, s1, s2⟩ := hSw; go_simp; try with_reducible rfl)
      try simp only [Act.put, List.setIfInBounds_toArray, List.set_cons_zero, List.set_cons_succ]
      refine wpAnyH_ready (rs := [27]) (by kernel_rfl) (by simp) ?_
      refine AllReadyH.cons (o := ⟨some 58, _, _, _, _, some (25, false)⟩) rfl (fun K hK => ?_) AllReadyH.nil
      rw [if_pos (by rfl)]
      go_wp2_with (go_at_call 16; refine HLEN.out.mono ?_; rintro e w4 ⟨rfl, d4, rfl⟩)
      rw [← HMM.out]
      clear hS
      have hS : (fun w' : World => w'.cell? ⟨bq, oq + i * 3, none⟩ = some (.int .u32 pv) ∧ w'.cell? ⟨bq, oq + i * 3 + 1, none⟩ = some (.int .i64 pn) ∧ w'.cell? ⟨gr, 0, none⟩ = some (.slice Ar m cr)) (w3.drewN d4) := ⟨q03, q13, c3⟩
      refine hK.out _ _ hS (fun _ => ?_)
      try simp only [Act.put, List.setIfInBounds_toArray, List.set_cons_zero, List.set_cons_succ]
      refine wpAnyH_take (i := 33) (oi := ⟨some 64, _, _, _, _, some (25, false)⟩) (v := ?_) rfl (by kernel_rfl) (by kernel_rfl) (by kernel_rfl) (fun c _ w h => HQP.out c _ _ _ w h) (Or.inl ⟨by rfl, ?v33⟩) hS ?_
      case v33 => (intro w hSw; (try dsimp only at hSw); obtain ⟨s0, s1, s2⟩ := hSw; go_simp; try with_reducible rfl)
      try simp only [Act.put, List.setIfInBounds_toArray, List.set_cons_zero, List.set_cons_succ]
      refine wpAnyH_take (i := 34) (oi := ⟨some 65, _, _, _, _, none⟩) (v := ?_) rfl (by kernel_rfl) (by kernel_rfl) (by kernel_rfl) (fun c _ w h => HQP.out c _ _ _ w h) (Or.inl ⟨by rfl, ?v34⟩) hS ?_
      case v34 => (intro w hSw; (try dsimp only at hSw); obtain ⟨s0, s1, s2⟩ := hSw; go_simp; try with_reducible rfl)
      try simp only [Act.put, List.setIfInBounds_toArray, List.set_cons_zero, List.set_cons_succ]
      refine wpAnyH_done (by kernel_rfl) ?_ _
      refine HQN.out _ _ ?_
      clear HQP HQN
      have bb4 : Below B W (w3.drewN d4) := pw_below_drewN ((HBWC.out.trans bb2).trans bb3) d4
      have X4 : WS B gw gr vw2 vr3 u5 (ofT l2) l2.length l2 nb xb (w3.drewN d4) := ⟨HX3.out.iw, HX3.out.ir, HX3.out.ib, HX3.out.idd, HX3.out.ss⟩
      have HX4 := Lib.hid X4
      have HBB4 := Lib.hid bb4
      have e2 : ((m : Int) != (m : Int)) = false := by simp
      clear hS q0 q1 q02 q12 q03 q13 c3 X4 bb4 bb2 bb3
      generalize w3.drewN d4 = w4 at *
      by_cases h5 : i % 64 = 5
      · have d5 : ((i : Int) % 64 == 5) = true := by rw [beq_iff_eq]; omega
        clear h5
        go_wp2_with fail
        refine (bytes_any B gw vw2 (ofT l2) l2.length _ HL2.out HX4.out.iw).mono ?_
        rintro e w5 ⟨v5, rfl, o5, b5⟩
        have X5 := HX4.out.newb b5 o5
        have HBB5 := Lib.hid (HBB4.out.trans (b5.mono HX4.out.ss))
        have HX5 := Lib.hid X5
        clear o5 b5 X5
        go_wp2_with fail
        refine (rbytes_any B gr vr3 l2 w5 HL2.out HX5.out.ir).mono ?_
        rintro e w6 ⟨v6, rfl, o6, b6⟩
        have X6 := HX5.out.below b6
        have HBB6 := Lib.hid (HBB5.out.trans (b6.mono HX5.out.ss))
        have HX6 := Lib.hid X6
        have HR5 := Lib.hid (own_rds X6.ib)
        have HR6 := Lib.hid (own_rds o6)
        clear o6 b6 X6
        have hlen : (byts (ofT l2) l2.length).length ≤ 1000000 := by have := HL2.out; rw [byts_len]; omega
        have HLEN2 := Lib.hid hlen
        clear hlen
        go_wp2_with fail
        refine (same_yes _ _ _ w6 (by have := HR5.out; exact this) HR6.out).mono ?_
        rintro e w7 ⟨rfl, d7, hw7⟩
        have HX7 : Hid (WS B gw gr vw2 vr3 v5 (ofT l2) l2.length l2 (byts (ofT l2) l2.length).length (byts (ofT l2) l2.length) w7) := by
          simp only [Hid]
          rw [hw7]
          exact ⟨HX6.out.iw, HX6.out.ir, HX6.out.ib, HX6.out.idd, HX6.out.ss⟩
        have HBB7 : Hid (Below B W w7) := by simp only [Hid]; rw [hw7]; exact pw_below_drewN HBB6.out d7
        clear hw7
        go_wp2_with fail
        refine (turn_any B _ v5 _ w7 HX7.out.ib (Nat.le_trans HLEN2.out (by decide))).mono ?_
        rintro e w8 ⟨rfl, ⟨zs, oz⟩, f8⟩
        obtain ⟨X8, bb8⟩ := HX7.out.turn f8 oz
        have HX8 := Lib.hid X8
        have HBB8 := Lib.hid (HBB7.out.trans bb8)
        clear X8 bb8 oz f8
        go_wp2_with fail
        go_roundg (gk - 1)
        case measure => have := HG.out; omega
        case rel => exact ⟨i + 1, vw2, vr3, l2, _, zs, by have := HG.out; simp only [Hid]; omega, by go_num, HX8, HBB8, ⟨HLN.out, by omega⟩, HLEN2⟩
      · have d5 : ((i : Int) % 64 == 5) = false := by rw [beq_eq_false_iff_ne]; omega
        clear h5
        go_wp2_with fail
        go_roundg (gk - 1)
        case measure => have := HG.out; omega
        case rel => exact ⟨i + 1, vw2, vr3, l2, nb, xb, by have := HG.out; simp only [Hid]; omega, by go_num, HX4, HBB4, ⟨HLN.out, by omega⟩, HNB⟩
    · have hend : decide (i < ps.length) = false ∨ (decide (i < ps.length) = true ∧ decide ((i : Int) < 300) = false) := by
        rcases Nat.lt_or_ge i ps.length with h | h
        · exact .inr ⟨decide_eq_true h, decide_eq_false (fun h2 => hlt ⟨h, by omega⟩)⟩
        · exact .inl (decide_eq_false (by omega))
      clear hlt
      have hl8 : l.length ≤ 8000000 := by have := HLL.out; omega
      have HL8 := Lib.hid hl8
      have hlen : (byts (ofT l) l.length).length ≤ 1000000 := by rw [byts_len]; omega
      have HLEN := Lib.hid hlen
      obtain ⟨A5, c5, hu5⟩ := own_slice HX.out.ib
      clear hl8 hlen
      subst hu5
      rcases hend with z1 | ⟨z1, z2⟩
      all_goals
        go_wp2_with fail
        refine (bytes_any B gw vw (ofT l) l.length wr HL8.out HX.out.iw).mono ?_
        rintro e w2 ⟨va, rfl, oa, b2⟩
        have HX2 := Lib.hid (HX.out.below b2)
        have HB2 := Lib.hid (HBB.out.trans (b2.mono HX.out.ss))
        have HOA2 := Lib.hid oa
        clear b2 oa
        go_wp2_with fail
        refine (bytes_any B gw vw (ofT l) l.length w2 HL8.out HX2.out.iw).mono ?_
        rintro e w3 ⟨vb, rfl, ob, b3⟩
        have HX3 := Lib.hid (HX2.out.below b3)
        have HB3 := Lib.hid (HB2.out.trans (b3.mono HX2.out.ss))
        have HOA3 := Lib.hid (pw_own_below HOA2.out b3)
        have hab : ∀ b, va.ownBlock = some b → vb.ownBlock ≠ some b := fun b h1 h2 => by have := own_lt HOA2.out b h1; have := own_base ob b h2; omega
        have HAB := Lib.hid hab
        have HOB3 := Lib.hid ob
        have hza : ∀ b, va.ownBlock = some b → ¬ WZ gw gr vw vr b := fun b h1 h2 => by have := HX.out.zl b h2; have := own_base HOA2.out b h1; omega
        have hzb : ∀ b, vb.ownBlock = some b → ¬ WZ gw gr vw vr b := fun b h1 h2 => by have := HX2.out.zl b h2; have := own_base ob b h1; omega
        have hda : ∀ b, va.ownBlock = some b → (Value.slice A5 nb c5).ownBlock ≠ some b := fun b h1 h2 => by have := own_lt HX.out.ib b h2; have := own_base HOA2.out b h1; omega
        have hdb : ∀ b, vb.ownBlock = some b → (Value.slice A5 nb c5).ownBlock ≠ some b := fun b h1 h2 => by have := own_lt HX2.out.ib b h2; have := own_base ob b h1; omega
        have HZA := Lib.hid hza
        have HZB := Lib.hid hzb
        have HDA := Lib.hid hda
        have HDB := Lib.hid hdb
        clear b3 ob hab hza hzb hda hdb
        go_wp2_with fail
        refine (rbytes_any B gr vr l w3 HL8.out HX3.out.ir).mono ?_
        rintro e w4 ⟨vc, rfl, oc, b4⟩
        have HX4 := Lib.hid (HX3.out.below b4)
        have HB4 := Lib.hid (HB3.out.trans (b4.mono HX3.out.ss))
        have HOA4 := Lib.hid (pw_own_below HOA3.out b4)
        have HOB4 := Lib.hid (pw_own_below HOB3.out b4)
        have HRA := Lib.hid (own_rds HOA4.out)
        have HRC := Lib.hid (own_rds oc)
        clear oc b4
        go_wp2_with fail
        refine (same_yes _ _ _ w4 HRA.out HRC.out).mono ?_
        rintro e w5 ⟨rfl, d5, hw5⟩
        have HX5 : Hid (WS B gw gr vw vr (.slice A5 nb c5) (ofT l) l.length l nb xb w5) := by
          simp only [Hid]
          rw [hw5]
          exact ⟨HX4.out.iw, HX4.out.ir, HX4.out.ib, HX4.out.idd, HX4.out.ss⟩
        have q5 : Below w4.heap.size w4 w5 := by rw [hw5]; exact pw_below_drewN (Below.refl _ _) d5
        have HB5 := Lib.hid (HB4.out.trans (q5.mono HX4.out.ss))
        have hs1 : B ≤ wr.heap.size := HX.out.ss
        have hs2 : B ≤ w2.heap.size := HX2.out.ss
        have HOA5 := Lib.hid (own_less (base := B) (pw_own_below HOA4.out q5) hs1)
        have HOB5 := Lib.hid (own_less (base := B) (pw_own_below HOB4.out q5) hs2)
        obtain ⟨Aa, ca, rfl⟩ := own_slice HOA5.out
        obtain ⟨Ab, cb', rfl⟩ := own_slice HOB5.out
        obtain ⟨M, hM⟩ : ∃ M, M = (byts (ofT l) l.length).length := ⟨_, rfl⟩
        rw [← hM] at HOA5 HOB5 HLEN HAB HZA HZB HDA HDB ⊢
        have f6 : Fr (fun _ => False) w5 (w5.alloc (.cells #[.slice Aa M ca, .slice Ab M cb', .slice A5 nb c5] 22)) := (Fr.refl _ w5).alloc _
        have HFL := Lib.hid (flat_three (Zo := WZ gw gr vw vr) HOA5.out HOB5.out HX5.out.ib HAB.out HDA.out HDB.out HZA.out HZB.out HX5.out.zb HX5.out.zl)
        have HFL6 := Lib.hid (HFL.out.fr f6 (fun _ h => h.elim))
        have HAR : Hid (Arr (w5.alloc (.cells #[.slice Aa M ca, .slice Ab M cb', .slice A5 nb c5] 22)) 22 w5.heap.size 3 (three (.slice Aa M ca) (.slice Ab M cb') (.slice A5 nb c5))) := ⟨_, heap_alloc_new w5 _, fun j hj => by
          have hc : j = 0 ∨ j = 1 ∨ j = 2 := by omega
          rcases hc with rfl | rfl | rfl <;> rfl⟩
        have hnn : ∀ k, k < 3 → three M M nb k ≤ 1000000000 := fun k _ => by have := HLEN.out; have := HNB.out; unfold three; split <;> (try split) <;> omega
        have HX6 : Hid (WS B gw gr vw vr (.slice A5 nb c5) (ofT l) l.length l nb xb (w5.alloc (.cells #[.slice Aa M ca, .slice Ab M cb', .slice A5 nb c5] 22))) := HX5.out.below ((Below.refl _ w5).alloc (Nat.le_refl _) _)
        have HB6 := Lib.hid (HB5.out.alloc HX5.out.ss (.cells #[.slice Aa M ca, .slice Ab M cb', .slice A5 nb c5] 22))
        have HNN := Lib.hid hnn
        clear q5 hw5 hs1 hs2 hM f6 hnn
        go_wp2_with fail
        refine (apartBytesZ_any (WZ gw gr vw vr) B 3 w5.heap.size 3 _ _ _ _ HAR.out HFL6.out (by decide) (by decide) HNN.out HX6.out.ss).mono ?_
        rintro e w7 ⟨rfl, k7⟩
        have HW7 := Lib.hid (HX6.out.iw.kept k7 (.inl rfl) (fun b hb => .inr (.inl hb)))
        have HRW7 := Lib.hid (HX6.out.ir.kept k7 (.inr (.inr (.inl rfl))) (fun b hb => .inr (.inr (.inr hb))))
        have HB7 := Lib.hid (HB6.out.trans k7.bel)
        have s7 : B ≤ w7.heap.size := Nat.le_trans HX6.out.ss k7.bel.size
        have HS7 := Lib.hid s7
        clear k7 s7 HX6
        go_wp2_with fail
        refine (bytes_any B gw vw (ofT l) l.length w7 HL8.out HW7.out).mono ?_
        rintro e w8 ⟨vd, rfl, od, b8⟩
        have HB8 := Lib.hid (HB7.out.trans (b8.mono HS7.out))
        have HS8 : Hid (B ≤ w8.heap.size) := Nat.le_trans HS7.out b8.size
        have HRW8 := Lib.hid (HRW7.out.fr (Fr.of_below b8 (fun _ => False)) (fun h => h) (fun _ _ h => h))
        have HRD8 := Lib.hid (own_rds od)
        clear od b8
        go_wp2_with fail
        refine (rbytes_any B gr vr l w8 HL8.out HRW8.out).mono ?_
        rintro e w9 ⟨ve, rfl, oe, b9⟩
        have HB9 := Lib.hid (HB8.out.trans (b9.mono HS8.out))
        have HS9 : Hid (B ≤ w9.heap.size) := Nat.le_trans HS8.out b9.size
        have HRD9 := Lib.hid (HRD8.out.below b9)
        have HRE9 := Lib.hid (own_rds oe)
        clear oe b9
        go_wp2_with fail
        refine (same_yes _ _ _ w9 HRD9.out HRE9.out).mono ?_
        rintro e w10 ⟨rfl, d10, hw10⟩
        have HB10 : Hid (Below B W w10) := by simp only [Hid]; rw [hw10]; exact pw_below_drewN HB9.out d10
        have HS10 : Hid (B ≤ w10.heap.size) := by simp only [Hid]; rw [hw10]; exact HS9.out
        clear hw10
        go_wp2_with fail
        refine (awake_any w10).mono ?_
        rintro e w11 ⟨rfl, b11⟩
        go_wp2
        go_ret
        exact ⟨rfl, HB10.out.trans (b11.mono HS10.out)⟩

end Go.Proofs.Ytbpckacgdkikdaa
