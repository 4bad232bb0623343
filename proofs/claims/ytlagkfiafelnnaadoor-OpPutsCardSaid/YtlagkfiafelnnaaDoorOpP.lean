/- Ops: what is right, which bytes they have, which op bytes say. Plain: no function of the program is in sight. -/
import Derived.Test.YtlagkfiafelnnaaDoorFr
set_option linter.unusedVariables false
set_option linter.unusedSimpArgs false
namespace Go.Proofs.YtlagkfiafelnnaaDoor

/-- An extent that an op brings along. -/
structure Fre where
  key : List Int
  at_ : Int
  sectors : Int
  units : Int
  refs : Int
  deriving DecidableEq
/-- A unit that an op sets. -/
structure Pu where
  unit : Int
  key : List Int
  off : Int
  mask : Int
  deriving DecidableEq
structure OpV where
  kind : Int
  at_ : Int
  n : Int
  snap : Int
  news : List Fre
  puts : List Pu
  deriving DecidableEq

def within (n a b : Int) : Bool := decide (a ≤ n ∧ n ≤ b)
def freOk (f : Fre) : Bool := within f.at_ 0 262144 && within f.sectors 1 1024 && within f.units 1 16 && decide (f.refs = 0)
/-- The rows of extents are right: each one, and no key twice. -/
def newsOk : List (List Int) → List Fre → Bool
  | _, [] => true
  | seen, f :: l => freOk f && !(seen.contains f.key) && newsOk (f.key :: seen) l
def puOk (least : Int) (p : Pu) : Bool := within p.unit least 511 && within p.off 0 15 && within p.mask 1 255
def putsOk : Int → List Pu → Bool
  | _, [] => true
  | least, p :: l => puOk least p && putsOk (p.unit + 1) l
def writeOk (o : OpV) : Bool := newsOk [] o.news && putsOk 0 o.puts && decide (o.news.length ≤ 18) && decide (o.puts.length ≤ 18)
def bare (o : OpV) : Bool := decide (o.news.length = 0) && decide (o.puts.length = 0)
def right (o : OpV) : Bool :=
  if o.kind = 1 then decide (o.at_ = 0) && decide (o.n = 0) && decide (o.snap = 0) && writeOk o
  else if o.kind = 2 then bare o && decide (o.snap = 0) && within o.at_ 0 4096 && within o.n 0 4096
  else if o.kind = 3 ∨ o.kind = 4 ∨ o.kind = 5 then bare o && decide (o.at_ = 0) && decide (o.n = 0) && within o.snap 1 1073741824
  else false

/-- A number's bytes, the highest first. -/
def num (k : Nat) (n : Int) : List Int := (List.range k).map fun j => n / 256 ^ (k - 1 - j) % 256
theorem num_length (k : Nat) (n : Int) : (num k n).length = k := by simp [num]
theorem num1 (n : Int) : num 1 n = [n % 256] := by simp [num, List.range_succ]
theorem num2 (n : Int) : num 2 n = [n / 256 % 256, n % 256] := by simp [num, List.range_succ]
theorem num4 (n : Int) : num 4 n = [n / 16777216 % 256, n / 65536 % 256, n / 256 % 256, n % 256] := by simp [num, List.range_succ]
def val (l : List Int) : Int := l.foldl (fun a c => 256 * a + c) 0
theorem val_snoc (l : List Int) (c : Int) : val (l ++ [c]) = 256 * val l + c := by simp [val, List.foldl_append]

def encF (f : Fre) : List Int := f.key ++ (num 4 f.at_ ++ (num 2 f.sectors ++ num 1 f.units))
def encP (p : Pu) : List Int := num 2 p.unit ++ (p.key ++ (num 1 p.off ++ num 1 p.mask))
def bytes (o : OpV) : List Int :=
  num 1 o.kind ++
  if o.kind = 1 then num 1 (o.news.length : Int) ++ (o.news.flatMap encF ++ (num 1 (o.puts.length : Int) ++ o.puts.flatMap encP))
  else if o.kind = 2 then num 2 o.at_ ++ num 2 o.n
  else num 4 o.snap

/-! ### What the program reads -/
/-- What is left, and whether there were too few. -/
structure St where
  l : List Int
  bad : Bool
def take_ (n : Nat) (s : St) : List Int := if s.bad || decide (s.l.length < n) then List.replicate n 0 else s.l.take n
def drop_ (n : Nat) (s : St) : St := if s.bad || decide (s.l.length < n) then ⟨s.l, true⟩ else ⟨s.l.drop n, false⟩
def rfresh (s : St) : Fre := ⟨take_ 32 s, val (take_ 4 (drop_ 32 s)), val (take_ 2 (drop_ 4 (drop_ 32 s))), val (take_ 1 (drop_ 2 (drop_ 4 (drop_ 32 s)))), 0⟩
def dfresh (s : St) : St := drop_ 1 (drop_ 2 (drop_ 4 (drop_ 32 s)))
def rput (s : St) : Pu := ⟨val (take_ 2 s), take_ 32 (drop_ 2 s), val (take_ 1 (drop_ 32 (drop_ 2 s))), val (take_ 1 (drop_ 1 (drop_ 32 (drop_ 2 s))))⟩
def dput (s : St) : St := drop_ 1 (drop_ 1 (drop_ 32 (drop_ 2 s)))
def rrow {α : Type} (one : St → α) (d : St → St) : Nat → St → List α
  | 0, _ => []
  | n + 1, s => if s.bad then [] else one s :: rrow one d n (d s)
def drow (d : St → St) : Nat → St → St
  | 0, s => s
  | n + 1, s => if s.bad then s else drow d n (d s)
def readRow {α : Type} (one : St → α) (d : St → St) (s : St) : List α := rrow one d (val (take_ 1 s)).toNat (drop_ 1 s)
def leaveRow (d : St → St) (s : St) : St := drow d (val (take_ 1 s)).toNat (drop_ 1 s)
def parse (s : St) : OpV × St :=
  let k := val (take_ 1 s)
  let s1 := drop_ 1 s
  if k = 1 then (⟨k, 0, 0, 0, readRow rfresh dfresh s1, readRow rput dput (leaveRow dfresh s1)⟩, leaveRow dput (leaveRow dfresh s1))
  else if k = 2 then (⟨k, val (take_ 2 s1), val (take_ 2 (drop_ 2 s1)), 0, [], []⟩, drop_ 2 (drop_ 2 s1))
  else (⟨k, 0, 0, val (take_ 4 s1), [], []⟩, drop_ 4 s1)
def pget (b : List Int) : Option OpV :=
  if (parse ⟨b, false⟩).2.bad || decide (0 < (parse ⟨b, false⟩).2.l.length) || !right (parse ⟨b, false⟩).1 then none else some (parse ⟨b, false⟩).1

/-! ### What the document reads -/
def pad (k : Nat) (l : List Int) : List Int := (l ++ List.replicate k 0).take k
def said (b : List Int) (at_ k : Nat) : Int := val (pad k (b.drop at_))
def keyAt (b : List Int) (at_ : Nat) : List Int := pad 32 (b.drop at_)
def freAt (b : List Int) (a : Nat) : Fre := ⟨keyAt b a, said b (a + 32) 4, said b (a + 36) 2, said b (a + 38) 1, 0⟩
def puAt (b : List Int) (a : Nat) : Pu := ⟨said b a 2, keyAt b (a + 2), said b (a + 34) 1, said b (a + 35) 1⟩
def rowAt {α : Type} (one : List Int → Nat → α) (w : Nat) (b : List Int) (a n : Nat) : List α := (List.range n).map fun j => one b (a + j * w)
def refParse (b : List Int) : OpV :=
  let k := said b 0 1
  if k = 1 then
    let n := (said b 1 1).toNat
    let a := 2 + n * 39
    ⟨k, 0, 0, 0, rowAt freAt 39 b 2 n, rowAt puAt 36 b (a + 1) (said b a 1).toNat⟩
  else if k = 2 then ⟨k, said b 1 2, said b 3 2, 0, [], []⟩
  else ⟨k, 0, 0, said b 1 4, [], []⟩
def rget (b : List Int) : Option OpV := if right (refParse b) && decide (bytes (refParse b) = b) then some (refParse b) else none

/-! ### Laws -/
def Bs (l : List Int) : Prop := ∀ x ∈ l, 0 ≤ x ∧ x < 256
theorem Bs.take {l : List Int} (h : Bs l) (n : Nat) : Bs (l.take n) := fun x hx => h x (List.mem_of_mem_take hx)
theorem Bs.drop {l : List Int} (h : Bs l) (n : Nat) : Bs (l.drop n) := fun x hx => h x (List.mem_of_mem_drop hx)
theorem Bs.app {l m : List Int} (h : Bs l) (k : Bs m) : Bs (l ++ m) := fun x hx => (List.mem_append.1 hx).elim (h x) (k x)
theorem Bs.num (k : Nat) (n : Int) : Bs (num k n) := by
  intro x hx
  obtain ⟨j, _, rfl⟩ := List.mem_map.1 hx
  exact ⟨Int.emod_nonneg _ (by decide), Int.emod_lt_of_pos _ (by decide)⟩
theorem Bs.rep (k : Nat) : Bs (List.replicate k 0) := fun x hx => by rw [(List.mem_replicate.1 hx).2]; omega
theorem len1 {α : Type} {l : List α} (h : l.length = 1) : ∃ a, l = [a] := by
  match l, h with
  | [a], _ => exact ⟨a, rfl⟩
theorem len2 {α : Type} {l : List α} (h : l.length = 2) : ∃ a b, l = [a, b] := by
  match l, h with
  | [a, b], _ => exact ⟨a, b, rfl⟩
theorem len4 {α : Type} {l : List α} (h : l.length = 4) : ∃ a b c d, l = [a, b, c, d] := by
  match l, h with
  | [a, b, c, d], _ => exact ⟨a, b, c, d, rfl⟩

theorem val_num1 {n : Int} (h0 : 0 ≤ n) (h1 : n < 256) : val (num 1 n) = n := by rw [num1]; simp only [val, List.foldl_cons, List.foldl_nil]; omega
theorem val_num2 {n : Int} (h0 : 0 ≤ n) (h1 : n < 65536) : val (num 2 n) = n := by rw [num2]; simp only [val, List.foldl_cons, List.foldl_nil]; omega
theorem val_num4 {n : Int} (h0 : 0 ≤ n) (h1 : n < 4294967296) : val (num 4 n) = n := by rw [num4]; simp only [val, List.foldl_cons, List.foldl_nil]; omega
theorem num_val1 {l : List Int} (h : l.length = 1) (hb : Bs l) : num 1 (val l) = l := by
  obtain ⟨a, rfl⟩ := len1 h
  have := hb a (by simp)
  rw [num1]; simp only [val, List.foldl_cons, List.foldl_nil, List.cons.injEq, and_true]; omega
theorem num_val2 {l : List Int} (h : l.length = 2) (hb : Bs l) : num 2 (val l) = l := by
  obtain ⟨a, b, rfl⟩ := len2 h
  have := hb a (by simp)
  have := hb b (by simp)
  rw [num2]; simp only [val, List.foldl_cons, List.foldl_nil, List.cons.injEq, and_true]; omega
theorem num_val4 {l : List Int} (h : l.length = 4) (hb : Bs l) : num 4 (val l) = l := by
  obtain ⟨a, b, c, d, rfl⟩ := len4 h
  have := hb a (by simp)
  have := hb b (by simp)
  have := hb c (by simp)
  have := hb d (by simp)
  rw [num4]; simp only [val, List.foldl_cons, List.foldl_nil, List.cons.injEq, and_true]; omega
theorem val_bd1 {l : List Int} (h : l.length = 1) (hb : Bs l) : 0 ≤ val l ∧ val l < 256 := by
  obtain ⟨a, rfl⟩ := len1 h
  have := hb a (by simp)
  simp only [val, List.foldl_cons, List.foldl_nil]; omega

theorem take_good (a t : List Int) (k : Nat) (h : a.length = k) : take_ k ⟨a ++ t, false⟩ = a := by
  unfold take_
  rw [if_neg (by simp; omega)]
  exact List.take_left' h
theorem drop_good (a t : List Int) (k : Nat) (h : a.length = k) : drop_ k ⟨a ++ t, false⟩ = ⟨t, false⟩ := by
  unfold drop_
  rw [if_neg (by simp; omega)]
  simp [List.drop_left' h]
theorem drop_back {k : Nat} {s : St} (h : (drop_ k s).bad = false) : s.bad = false ∧ k ≤ s.l.length ∧ s.l = take_ k s ++ (drop_ k s).l ∧ take_ k s = s.l.take k ∧ (drop_ k s).l = s.l.drop k := by
  by_cases hc : (s.bad || decide (s.l.length < k)) = true
  · unfold drop_ at h
    rw [if_pos hc] at h
    simp at h
  · have h1 : take_ k s = s.l.take k := by unfold take_; rw [if_neg hc]
    have h2 : (drop_ k s).l = s.l.drop k := by unfold drop_; rw [if_neg hc]
    simp at hc
    refine ⟨hc.1, hc.2, ?_, h1, h2⟩
    rw [h1, h2, List.take_append_drop]
theorem take_len {k : Nat} {s : St} : (take_ k s).length = k := by
  unfold take_
  split
  · simp
  · rename_i h
    simp at h
    rw [List.length_take]; omega
theorem Bs.take_ {k : Nat} {s : St} (h : Bs s.l) : Bs (take_ k s) := by
  unfold Proofs.YtlagkfiafelnnaaDoor.take_
  split
  · exact Bs.rep k
  · exact h.take k
theorem Bs.drop_ {k : Nat} {s : St} (h : Bs s.l) : Bs (drop_ k s).l := by
  unfold Proofs.YtlagkfiafelnnaaDoor.drop_
  split
  · exact h
  · exact h.drop k

/-- The keys are 32 bytes. -/
def KeyOk (k : List Int) : Prop := k.length = 32 ∧ Bs k
def OkV (o : OpV) : Prop := (∀ f ∈ o.news, KeyOk f.key) ∧ ∀ p ∈ o.puts, KeyOk p.key

theorem encF_len {f : Fre} (h : KeyOk f.key) : (encF f).length = 39 := by simp [encF, num_length, h.1]
theorem encP_len {p : Pu} (h : KeyOk p.key) : (encP p).length = 36 := by simp [encP, num_length, h.1]
theorem encF_bs {f : Fre} (h : KeyOk f.key) : Bs (encF f) := h.2.app ((Bs.num _ _).app ((Bs.num _ _).app (Bs.num _ _)))
theorem encP_bs {p : Pu} (h : KeyOk p.key) : Bs (encP p) := (Bs.num _ _).app (h.2.app ((Bs.num _ _).app (Bs.num _ _)))

theorem freOk_bd {f : Fre} (h : freOk f = true) : (0 ≤ f.at_ ∧ f.at_ ≤ 262144) ∧ (1 ≤ f.sectors ∧ f.sectors ≤ 1024) ∧ (1 ≤ f.units ∧ f.units ≤ 16) ∧ f.refs = 0 := by
  simp [freOk, within] at h
  omega
theorem puOk_bd {p : Pu} {least : Int} (h : puOk least p = true) : (least ≤ p.unit ∧ p.unit ≤ 511) ∧ (0 ≤ p.off ∧ p.off ≤ 15) ∧ 1 ≤ p.mask ∧ p.mask ≤ 255 := by
  simp [puOk, within] at h
  omega
theorem newsOk_all : ∀ {seen : List (List Int)} {l : List Fre}, newsOk seen l = true → ∀ f ∈ l, freOk f = true
  | _, [], _ => by simp
  | seen, g :: l, h => by
    unfold newsOk at h
    simp only [Bool.and_eq_true] at h
    intro f hf
    rcases List.mem_cons.1 hf with rfl | hf
    · exact h.1.1
    · exact newsOk_all h.2 f hf
theorem putsOk_all : ∀ {least : Int} {l : List Pu}, 0 ≤ least → putsOk least l = true → ∀ p ∈ l, puOk 0 p = true
  | _, [], _, _ => by simp
  | least, g :: l, h0, h => by
    unfold putsOk at h
    simp only [Bool.and_eq_true] at h
    have hb := puOk_bd h.1
    intro p hp
    rcases List.mem_cons.1 hp with rfl | hp
    · have h1 := h.1
      simp [puOk, within] at h1 ⊢
      omega
    · exact putsOk_all (by omega) h.2 p hp

/-! ### The program's reading, forwards -/
theorem rfresh_enc {f : Fre} (hk : KeyOk f.key) (ho : freOk f = true) (t : List Int) : rfresh ⟨encF f ++ t, false⟩ = f ∧ dfresh ⟨encF f ++ t, false⟩ = ⟨t, false⟩ := by
  obtain ⟨b1, b2, b3, b4⟩ := freOk_bd ho
  have e : encF f ++ t = f.key ++ (num 4 f.at_ ++ (num 2 f.sectors ++ (num 1 f.units ++ t))) := by simp [encF]
  have d1 : drop_ 32 ⟨encF f ++ t, false⟩ = ⟨num 4 f.at_ ++ (num 2 f.sectors ++ (num 1 f.units ++ t)), false⟩ := by rw [e]; exact drop_good _ _ _ hk.1
  have d2 : drop_ 4 (drop_ 32 ⟨encF f ++ t, false⟩) = ⟨num 2 f.sectors ++ (num 1 f.units ++ t), false⟩ := by rw [d1]; exact drop_good _ _ _ (num_length _ _)
  have d3 : drop_ 2 (drop_ 4 (drop_ 32 ⟨encF f ++ t, false⟩)) = ⟨num 1 f.units ++ t, false⟩ := by rw [d2]; exact drop_good _ _ _ (num_length _ _)
  refine ⟨?_, ?_⟩
  · unfold rfresh
    rw [d3, d2, d1, e, take_good _ _ _ hk.1, take_good _ _ _ (num_length _ _), take_good _ _ _ (num_length _ _), take_good _ _ _ (num_length _ _), val_num4 (by omega) (by omega), val_num2 (by omega) (by omega), val_num1 (by omega) (by omega), ← b4]
  · unfold dfresh
    rw [d3]; exact drop_good _ _ _ (num_length _ _)
theorem rput_enc {p : Pu} (hk : KeyOk p.key) (ho : puOk 0 p = true) (t : List Int) : rput ⟨encP p ++ t, false⟩ = p ∧ dput ⟨encP p ++ t, false⟩ = ⟨t, false⟩ := by
  obtain ⟨b1, b2, b3⟩ := puOk_bd ho
  have e : encP p ++ t = num 2 p.unit ++ (p.key ++ (num 1 p.off ++ (num 1 p.mask ++ t))) := by simp [encP]
  have d1 : drop_ 2 ⟨encP p ++ t, false⟩ = ⟨p.key ++ (num 1 p.off ++ (num 1 p.mask ++ t)), false⟩ := by rw [e]; exact drop_good _ _ _ (num_length _ _)
  have d2 : drop_ 32 (drop_ 2 ⟨encP p ++ t, false⟩) = ⟨num 1 p.off ++ (num 1 p.mask ++ t), false⟩ := by rw [d1]; exact drop_good _ _ _ hk.1
  have d3 : drop_ 1 (drop_ 32 (drop_ 2 ⟨encP p ++ t, false⟩)) = ⟨num 1 p.mask ++ t, false⟩ := by rw [d2]; exact drop_good _ _ _ (num_length _ _)
  refine ⟨?_, ?_⟩
  · unfold rput
    rw [d3, d2, d1, e, take_good _ _ _ (num_length _ _), take_good _ _ _ hk.1, take_good _ _ _ (num_length _ _), take_good _ _ _ (num_length _ _), val_num2 (by omega) (by omega), val_num1 (by omega) (by omega), val_num1 (by omega) (by omega)]
  · unfold dput
    rw [d3]; exact drop_good _ _ _ (num_length _ _)
theorem row_enc {α : Type} {one : St → α} {d : St → St} {enc : α → List Int} : ∀ (l : List α) (t : List Int), (∀ x ∈ l, ∀ t, one ⟨enc x ++ t, false⟩ = x ∧ d ⟨enc x ++ t, false⟩ = ⟨t, false⟩) →
    rrow one d l.length ⟨l.flatMap enc ++ t, false⟩ = l ∧ drow d l.length ⟨l.flatMap enc ++ t, false⟩ = ⟨t, false⟩
  | [], t, _ => ⟨rfl, rfl⟩
  | x :: l, t, h => by
    obtain ⟨h1, h2⟩ := h x (by simp) (l.flatMap enc ++ t)
    obtain ⟨h3, h4⟩ := row_enc l t (fun y hy => h y (by simp [hy]))
    have e : (x :: l).flatMap enc ++ t = enc x ++ (l.flatMap enc ++ t) := by simp
    rw [e]
    simp only [List.length_cons, rrow, drow, Bool.false_eq_true, if_false]
    rw [h1, h2, h3, h4]
    exact ⟨rfl, rfl⟩
theorem readRow_enc {α : Type} {one : St → α} {d : St → St} {enc : α → List Int} (l : List α) (t : List Int) (hl : l.length < 256) (h : ∀ x ∈ l, ∀ t, one ⟨enc x ++ t, false⟩ = x ∧ d ⟨enc x ++ t, false⟩ = ⟨t, false⟩) :
    readRow one d ⟨num 1 (l.length : Int) ++ (l.flatMap enc ++ t), false⟩ = l ∧ leaveRow d ⟨num 1 (l.length : Int) ++ (l.flatMap enc ++ t), false⟩ = ⟨t, false⟩ := by
  unfold readRow leaveRow
  rw [take_good _ _ _ (num_length _ _), drop_good _ _ _ (num_length _ _), val_num1 (by omega) (by omega), Int.toNat_natCast]
  exact row_enc l t h

theorem right_kind {o : OpV} (h : right o = true) : 1 ≤ o.kind ∧ o.kind ≤ 5 := by
  unfold right at h
  split at h
  · omega
  · split at h
    · omega
    · split at h
      · omega
      · simp at h
theorem bare_nil {o : OpV} (h : bare o = true) : o.news = [] ∧ o.puts = [] := by
  simp [bare] at h
  exact h
theorem parse_bytes {o : OpV} (hr : right o = true) (hk : OkV o) (t : List Int) : parse ⟨bytes o ++ t, false⟩ = (o, ⟨t, false⟩) := by
  have hkd := right_kind hr
  obtain ⟨kind, at_, n, snap, news, puts⟩ := o
  dsimp only at hkd
  unfold parse
  have e : bytes ⟨kind, at_, n, snap, news, puts⟩ ++ t = num 1 kind ++ ((if kind = 1 then num 1 (news.length : Int) ++ (news.flatMap encF ++ (num 1 (puts.length : Int) ++ puts.flatMap encP)) else if kind = 2 then num 2 at_ ++ num 2 n else num 4 snap) ++ t) := by
    simp [bytes]
  rw [e, take_good _ _ _ (num_length _ _), drop_good _ _ _ (num_length _ _), val_num1 (by omega) (by omega)]
  unfold right at hr
  dsimp only at hr ⊢
  by_cases k1 : kind = 1
  · rw [if_pos k1] at hr ⊢
    rw [if_pos k1]
    simp only [Bool.and_eq_true, decide_eq_true_eq, writeOk] at hr
    obtain ⟨⟨⟨rfl, rfl⟩, rfl⟩, ⟨⟨hn, hp⟩, ln⟩, lp⟩ := hr
    have e2 : num 1 (news.length : Int) ++ (news.flatMap encF ++ (num 1 (puts.length : Int) ++ puts.flatMap encP)) ++ t = num 1 (news.length : Int) ++ (news.flatMap encF ++ (num 1 (puts.length : Int) ++ (puts.flatMap encP ++ t))) := by simp
    rw [e2]
    obtain ⟨r1, r2⟩ := readRow_enc (one := rfresh) (d := dfresh) (enc := encF) news (num 1 (puts.length : Int) ++ (puts.flatMap encP ++ t)) (by omega) (fun x hx t => rfresh_enc (hk.1 x hx) (newsOk_all hn x hx) t)
    obtain ⟨r3, r4⟩ := readRow_enc (one := rput) (d := dput) (enc := encP) puts t (by omega) (fun x hx t => rput_enc (hk.2 x hx) (putsOk_all (by omega) hp x hx) t)
    rw [r1, r2, r3, r4]
  · rw [if_neg k1] at hr ⊢
    rw [if_neg k1]
    by_cases k2 : kind = 2
    · rw [if_pos k2] at hr ⊢
      rw [if_pos k2]
      simp only [Bool.and_eq_true, decide_eq_true_eq, within] at hr
      obtain ⟨⟨⟨hb, rfl⟩, ha⟩, hn⟩ := hr
      obtain ⟨e1, e2⟩ := bare_nil hb
      dsimp only at e1 e2
      subst e1 e2
      have e3 : num 2 at_ ++ num 2 n ++ t = num 2 at_ ++ (num 2 n ++ t) := by simp
      rw [e3, take_good _ _ _ (num_length _ _), drop_good _ _ _ (num_length _ _), take_good _ _ _ (num_length _ _), drop_good _ _ _ (num_length _ _), val_num2 (by omega) (by omega), val_num2 (by omega) (by omega)]
    · rw [if_neg k2] at hr ⊢
      rw [if_neg k2]
      by_cases k3 : kind = 3 ∨ kind = 4 ∨ kind = 5
      · rw [if_pos k3] at hr
        simp only [Bool.and_eq_true, decide_eq_true_eq, within] at hr
        obtain ⟨⟨⟨hb, rfl⟩, rfl⟩, hn⟩ := hr
        obtain ⟨e1, e2⟩ := bare_nil hb
        dsimp only at e1 e2
        subst e1 e2
        rw [take_good _ _ _ (num_length _ _), drop_good _ _ _ (num_length _ _), val_num4 (by omega) (by omega)]
      · rw [if_neg k3] at hr
        simp at hr

/-! ### The program's reading, backwards -/
theorem dfresh_back {s : St} (h : (dfresh s).bad = false) (hb : Bs s.l) : s.bad = false ∧ s.l = encF (rfresh s) ++ (dfresh s).l ∧ Bs (dfresh s).l := by
  unfold dfresh at h ⊢
  obtain ⟨a1, a2, a3, a4, a5⟩ := drop_back h
  obtain ⟨b1, b2, b3, b4, b5⟩ := drop_back a1
  obtain ⟨c1, c2, c3, c4, c5⟩ := drop_back b1
  obtain ⟨d1, d2, d3, d4, d5⟩ := drop_back c1
  refine ⟨d1, ?_, hb.drop_.drop_.drop_.drop_⟩
  unfold encF rfresh
  dsimp only
  rw [num_val4 take_len hb.drop_.take_, num_val2 take_len hb.drop_.drop_.take_, num_val1 take_len hb.drop_.drop_.drop_.take_]
  rw [List.append_assoc, List.append_assoc, List.append_assoc, ← a3, ← b3, ← c3, ← d3]
theorem dput_back {s : St} (h : (dput s).bad = false) (hb : Bs s.l) : s.bad = false ∧ s.l = encP (rput s) ++ (dput s).l ∧ Bs (dput s).l := by
  unfold dput at h ⊢
  obtain ⟨a1, a2, a3, a4, a5⟩ := drop_back h
  obtain ⟨b1, b2, b3, b4, b5⟩ := drop_back a1
  obtain ⟨c1, c2, c3, c4, c5⟩ := drop_back b1
  obtain ⟨d1, d2, d3, d4, d5⟩ := drop_back c1
  refine ⟨d1, ?_, hb.drop_.drop_.drop_.drop_⟩
  unfold encP rput
  dsimp only
  rw [num_val2 take_len hb.take_, num_val1 take_len hb.drop_.drop_.take_, num_val1 take_len hb.drop_.drop_.drop_.take_]
  rw [List.append_assoc, List.append_assoc, List.append_assoc, ← a3, ← b3, ← c3, ← d3]
theorem row_back {α : Type} {one : St → α} {d : St → St} {enc : α → List Int} (hd : ∀ s, (d s).bad = false → Bs s.l → s.bad = false ∧ s.l = enc (one s) ++ (d s).l ∧ Bs (d s).l) : ∀ (n : Nat) (s : St), (drow d n s).bad = false → Bs s.l →
    s.bad = false ∧ s.l = (rrow one d n s).flatMap enc ++ (drow d n s).l ∧ Bs (drow d n s).l ∧ (rrow one d n s).length = n
  | 0, s, h, hb => ⟨h, rfl, hb, rfl⟩
  | n + 1, s, h, hb => by
    unfold drow at h
    unfold drow rrow
    by_cases hs : s.bad = true
    · rw [if_pos hs, hs] at h
      simp at h
    · rw [if_neg hs] at h ⊢
      rw [if_neg hs]
      have hbd : Bs (d s).l := by
        by_cases hx : (d s).bad = false
        · exact (hd s hx hb).2.2
        · exfalso
          have : ∀ n, (drow d n (d s)).bad = true := fun n => by
            cases n with
            | zero => unfold drow; simpa using hx
            | succ n => unfold drow; rw [if_pos (by simpa using hx)]; simpa using hx
          rw [this] at h
          simp at h
      obtain ⟨h1, h2, h3, h4⟩ := row_back hd n (d s) h hbd
      obtain ⟨g1, g2, g3⟩ := hd s h1 hb
      refine ⟨g1, ?_, h3, by simp [h4]⟩
      rw [List.flatMap_cons, List.append_assoc, ← h2, ← g2]
theorem leaveRow_back {α : Type} {one : St → α} {d : St → St} {enc : α → List Int} (hd : ∀ s, (d s).bad = false → Bs s.l → s.bad = false ∧ s.l = enc (one s) ++ (d s).l ∧ Bs (d s).l) (s : St) (h : (leaveRow d s).bad = false) (hb : Bs s.l) :
    s.bad = false ∧ s.l = num 1 ((readRow one d s).length : Int) ++ ((readRow one d s).flatMap enc ++ (leaveRow d s).l) ∧ Bs (leaveRow d s).l := by
  unfold leaveRow at h ⊢
  unfold readRow
  obtain ⟨h1, h2, h3, h4⟩ := row_back hd _ _ h hb.drop_
  obtain ⟨a1, a2, a3, a4, a5⟩ := drop_back h1
  refine ⟨a1, ?_, h3⟩
  have hv := val_bd1 (take_len (k := 1) (s := s)) hb.take_
  have e : (((val (take_ 1 s)).toNat : Nat) : Int) = val (take_ 1 s) := Int.toNat_of_nonneg hv.1
  rw [h4, e, num_val1 take_len hb.take_, ← h2, ← a3]
theorem parse_back {b : List Int} (hb : Bs b) (h : (parse ⟨b, false⟩).2.bad = false) (h0 : (parse ⟨b, false⟩).2.l = []) : bytes (parse ⟨b, false⟩).1 = b := by
  unfold parse at h h0 ⊢
  dsimp only at h h0 ⊢
  by_cases k1 : val (take_ 1 ⟨b, false⟩) = 1
  · rw [if_pos k1] at h h0 ⊢
    dsimp only at h h0 ⊢
    have h1 : (leaveRow dfresh (drop_ 1 ⟨b, false⟩)).bad = false ∧ Bs (leaveRow dfresh (drop_ 1 ⟨b, false⟩)).l := by
      by_cases hx : (leaveRow dfresh (drop_ 1 ⟨b, false⟩)).bad = false
      · exact ⟨hx, (leaveRow_back (fun s h hb => dfresh_back h hb) _ hx (Bs.drop_ (s := ⟨b, false⟩) hb)).2.2⟩
      · exfalso
        have hx' : (leaveRow dfresh (drop_ 1 ⟨b, false⟩)).bad = true := by simpa using hx
        have hy : (drop_ 1 (leaveRow dfresh (drop_ 1 ⟨b, false⟩))).bad = true := by
          generalize leaveRow dfresh (drop_ 1 ⟨b, false⟩) = s at hx'
          unfold drop_; rw [hx']; rfl
        have : ∀ n s, s.bad = true → (drow dput n s).bad = true := fun n s hs => by
          cases n with
          | zero => exact hs
          | succ n => unfold drow; rw [if_pos hs]; exact hs
        unfold leaveRow at h
        rw [this _ _ (by unfold leaveRow at hy; exact hy)] at h
        simp at h
    obtain ⟨g1, g2, g3⟩ := leaveRow_back (enc := encP) (fun s h hb => dput_back h hb) _ h h1.2
    obtain ⟨f1, f2, f3⟩ := leaveRow_back (enc := encF) (fun s h hb => dfresh_back h hb) _ h1.1 (Bs.drop_ (s := ⟨b, false⟩) hb)
    obtain ⟨a1, a2, a3, a4, a5⟩ := drop_back f1
    unfold bytes
    rw [if_pos k1]
    dsimp only
    rw [num_val1 take_len (Bs.take_ (s := ⟨b, false⟩) hb)]
    rw [h0, List.append_nil] at g2
    rw [← g2, ← f2, ← a3]
  · rw [if_neg k1] at h h0 ⊢
    by_cases k2 : val (take_ 1 ⟨b, false⟩) = 2
    · rw [if_pos k2] at h h0 ⊢
      dsimp only at h h0 ⊢
      obtain ⟨a1, a2, a3, a4, a5⟩ := drop_back h
      obtain ⟨b1, b2, b3, b4, b5⟩ := drop_back a1
      obtain ⟨c1, c2, c3, c4, c5⟩ := drop_back b1
      unfold bytes
      rw [if_neg (by dsimp only; omega), if_pos k2]
      dsimp only
      rw [num_val1 take_len (Bs.take_ (s := ⟨b, false⟩) hb), num_val2 take_len (Bs.drop_ (s := ⟨b, false⟩) hb).take_, num_val2 take_len (Bs.drop_ (s := ⟨b, false⟩) hb).drop_.take_]
      rw [h0, List.append_nil] at a3
      rw [← a3, ← b3, ← c3]
    · rw [if_neg k2] at h h0 ⊢
      dsimp only at h h0 ⊢
      obtain ⟨a1, a2, a3, a4, a5⟩ := drop_back h
      obtain ⟨b1, b2, b3, b4, b5⟩ := drop_back a1
      unfold bytes
      rw [if_neg (by dsimp only; omega), if_neg (by dsimp only; omega)]
      dsimp only
      rw [num_val1 take_len (Bs.take_ (s := ⟨b, false⟩) hb), num_val4 take_len (Bs.drop_ (s := ⟨b, false⟩) hb).take_]
      rw [h0, List.append_nil] at a3
      rw [← a3, ← b3]
theorem rrow_all {α : Type} {one : St → α} {d : St → St} {P : α → Prop} (h1 : ∀ s, Bs s.l → P (one s)) (h2 : ∀ s, Bs s.l → Bs (d s).l) : ∀ (n : Nat) (s : St), Bs s.l → (∀ x ∈ rrow one d n s, P x) ∧ Bs (drow d n s).l
  | 0, s, hb => ⟨by simp [rrow], hb⟩
  | n + 1, s, hb => by
    unfold rrow drow
    split
    · exact ⟨by simp, hb⟩
    · obtain ⟨g1, g2⟩ := rrow_all h1 h2 n (d s) (h2 s hb)
      refine ⟨fun x hx => ?_, g2⟩
      rcases List.mem_cons.1 hx with rfl | hx
      · exact h1 s hb
      · exact g1 x hx
theorem parse_ok {b : List Int} (hb : Bs b) : OkV (parse ⟨b, false⟩).1 := by
  have hb1 : Bs (drop_ 1 ⟨b, false⟩).l := Bs.drop_ (s := ⟨b, false⟩) hb
  obtain ⟨f1, f2⟩ := rrow_all (P := fun f : Fre => KeyOk f.key) (one := rfresh) (d := dfresh) (fun s hs => ⟨take_len, hs.take_⟩) (fun s hs => hs.drop_.drop_.drop_.drop_) (val (take_ 1 (drop_ 1 ⟨b, false⟩))).toNat _ hb1.drop_
  obtain ⟨p1, p2⟩ := rrow_all (P := fun f : Pu => KeyOk f.key) (one := rput) (d := dput) (fun s hs => ⟨take_len, hs.drop_.take_⟩) (fun s hs => hs.drop_.drop_.drop_.drop_) (val (take_ 1 (leaveRow dfresh (drop_ 1 ⟨b, false⟩)))).toNat (drop_ 1 (leaveRow dfresh (drop_ 1 ⟨b, false⟩))) (by unfold leaveRow; exact f2.drop_)
  unfold parse
  dsimp only
  split
  · exact ⟨f1, p1⟩
  · split
    · exact ⟨by simp, by simp⟩
    · exact ⟨by simp, by simp⟩

/-! ### The document's reading -/
theorem pad_len (k : Nat) (l : List Int) : (pad k l).length = k := by simp [pad]
theorem pad_app (a t : List Int) (k : Nat) (h : a.length = k) : pad k (a ++ t) = a := by
  unfold pad
  rw [List.append_assoc]
  exact List.take_left' h
theorem Bs.pad {l : List Int} (h : Bs l) (k : Nat) : Bs (pad k l) := (h.app (Bs.rep k)).take k
theorem said_app (p a t : List Int) (i k : Nat) (hi : p.length = i) (h : a.length = k) : said (p ++ (a ++ t)) i k = val a := by
  unfold said
  rw [List.drop_left' hi, pad_app _ _ _ h]
theorem keyAt_app (p a t : List Int) (i : Nat) (hi : p.length = i) (h : a.length = 32) : keyAt (p ++ (a ++ t)) i = a := by
  unfold keyAt
  rw [List.drop_left' hi, pad_app _ _ _ h]
theorem freAt_enc {f : Fre} (hk : KeyOk f.key) (ho : freOk f = true) (p t : List Int) (i : Nat) (hi : p.length = i) : freAt (p ++ (encF f ++ t)) i = f := by
  obtain ⟨b1, b2, b3, b4⟩ := freOk_bd ho
  unfold freAt
  have e0 : p ++ (encF f ++ t) = p ++ (f.key ++ (num 4 f.at_ ++ (num 2 f.sectors ++ (num 1 f.units ++ t)))) := by simp [encF]
  have e1 : p ++ (encF f ++ t) = (p ++ f.key) ++ (num 4 f.at_ ++ (num 2 f.sectors ++ (num 1 f.units ++ t))) := by simp [encF]
  have e2 : p ++ (encF f ++ t) = (p ++ f.key ++ num 4 f.at_) ++ (num 2 f.sectors ++ (num 1 f.units ++ t)) := by simp [encF]
  have e3 : p ++ (encF f ++ t) = (p ++ f.key ++ num 4 f.at_ ++ num 2 f.sectors) ++ (num 1 f.units ++ t) := by simp [encF]
  have k0 : keyAt (p ++ (encF f ++ t)) i = f.key := by rw [e0]; exact keyAt_app _ _ _ _ hi hk.1
  have k1 : said (p ++ (encF f ++ t)) (i + 32) 4 = f.at_ := by rw [e1, said_app _ _ _ _ _ (by simp [hi, hk.1]) (num_length _ _), val_num4 (by omega) (by omega)]
  have k2 : said (p ++ (encF f ++ t)) (i + 36) 2 = f.sectors := by rw [e2, said_app _ _ _ _ _ (by simp [hi, hk.1, num_length]) (num_length _ _), val_num2 (by omega) (by omega)]
  have k3 : said (p ++ (encF f ++ t)) (i + 38) 1 = f.units := by rw [e3, said_app _ _ _ _ _ (by simp [hi, hk.1, num_length]) (num_length _ _), val_num1 (by omega) (by omega)]
  rw [k0, k1, k2, k3, ← b4]
theorem puAt_enc {f : Pu} (hk : KeyOk f.key) (ho : puOk 0 f = true) (p t : List Int) (i : Nat) (hi : p.length = i) : puAt (p ++ (encP f ++ t)) i = f := by
  obtain ⟨b1, b2, b3⟩ := puOk_bd ho
  unfold puAt
  have e0 : p ++ (encP f ++ t) = p ++ (num 2 f.unit ++ (f.key ++ (num 1 f.off ++ (num 1 f.mask ++ t)))) := by simp [encP]
  have e1 : p ++ (encP f ++ t) = (p ++ num 2 f.unit) ++ (f.key ++ (num 1 f.off ++ (num 1 f.mask ++ t))) := by simp [encP]
  have e2 : p ++ (encP f ++ t) = (p ++ num 2 f.unit ++ f.key) ++ (num 1 f.off ++ (num 1 f.mask ++ t)) := by simp [encP]
  have e3 : p ++ (encP f ++ t) = (p ++ num 2 f.unit ++ f.key ++ num 1 f.off) ++ (num 1 f.mask ++ t) := by simp [encP]
  have k0 : said (p ++ (encP f ++ t)) i 2 = f.unit := by rw [e0, said_app _ _ _ _ _ hi (num_length _ _), val_num2 (by omega) (by omega)]
  have k1 : keyAt (p ++ (encP f ++ t)) (i + 2) = f.key := by rw [e1]; exact keyAt_app _ _ _ _ (by simp [hi, num_length]) hk.1
  have k2 : said (p ++ (encP f ++ t)) (i + 34) 1 = f.off := by rw [e2, said_app _ _ _ _ _ (by simp [hi, hk.1, num_length]) (num_length _ _), val_num1 (by omega) (by omega)]
  have k3 : said (p ++ (encP f ++ t)) (i + 35) 1 = f.mask := by rw [e3, said_app _ _ _ _ _ (by simp [hi, hk.1, num_length]) (num_length _ _), val_num1 (by omega) (by omega)]
  rw [k0, k1, k2, k3]
theorem flat_len {α : Type} {enc : α → List Int} {w : Nat} : ∀ {l : List α}, (∀ x ∈ l, (enc x).length = w) → (l.flatMap enc).length = l.length * w
  | [], _ => by simp
  | x :: l, h => by
    rw [List.flatMap_cons, List.length_append, flat_len (fun y hy => h y (by simp [hy])), h x (by simp), List.length_cons, Nat.add_mul]
    omega
theorem rowAt_enc {α : Type} {one : List Int → Nat → α} {enc : α → List Int} {w : Nat} (l : List α) (p t : List Int) (i : Nat) (hi : p.length = i) (hw : ∀ x ∈ l, (enc x).length = w)
    (h : ∀ x ∈ l, ∀ (p t : List Int) (i : Nat), p.length = i → one (p ++ (enc x ++ t)) i = x) : rowAt one w (p ++ (l.flatMap enc ++ t)) i l.length = l := by
  apply List.ext_getElem
  · simp [rowAt]
  · intro j h1 h2
    simp only [rowAt, List.getElem_map, List.getElem_range]
    have e : l.flatMap enc = (l.take j).flatMap enc ++ (enc l[j] ++ (l.drop (j + 1)).flatMap enc) := by
      rw [← List.flatMap_cons, ← List.flatMap_append, ← List.drop_eq_getElem_cons h2, List.take_append_drop]
    have hl : ((l.take j).flatMap enc).length = j * w := by
      rw [flat_len (w := w) (fun x hx => hw x (List.mem_of_mem_take hx)), List.length_take, Nat.min_eq_left (by omega)]
    have e2 : p ++ (l.flatMap enc ++ t) = (p ++ (l.take j).flatMap enc) ++ (enc l[j] ++ ((l.drop (j + 1)).flatMap enc ++ t)) := by
      rw [e]
      simp only [List.append_assoc]
    rw [e2]
    exact h _ (List.getElem_mem h2) _ _ _ (by rw [List.length_append, hi, hl])
theorem refParse_bytes {o : OpV} (hr : right o = true) (hk : OkV o) : refParse (bytes o) = o := by
  have hkd := right_kind hr
  obtain ⟨kind, at_, n, snap, news, puts⟩ := o
  dsimp only at hkd
  unfold refParse
  have e : bytes ⟨kind, at_, n, snap, news, puts⟩ = [] ++ (num 1 kind ++ (if kind = 1 then num 1 (news.length : Int) ++ (news.flatMap encF ++ (num 1 (puts.length : Int) ++ puts.flatMap encP)) else if kind = 2 then num 2 at_ ++ num 2 n else num 4 snap)) := by
    simp [bytes]
  have k0 : said (bytes ⟨kind, at_, n, snap, news, puts⟩) 0 1 = kind := by rw [e, said_app [] _ _ 0 1 rfl (num_length _ _), val_num1 (by omega) (by omega)]
  rw [k0]
  unfold right at hr
  dsimp only at hr ⊢
  by_cases k1 : kind = 1
  · rw [if_pos k1] at hr e ⊢
    simp only [Bool.and_eq_true, decide_eq_true_eq, writeOk] at hr
    obtain ⟨⟨⟨rfl, rfl⟩, rfl⟩, ⟨⟨hn, hp⟩, ln⟩, lp⟩ := hr
    have wf : ∀ x ∈ news, (encF x).length = 39 := fun x hx => encF_len (hk.1 x hx)
    have wp : ∀ x ∈ puts, (encP x).length = 36 := fun x hx => encP_len (hk.2 x hx)
    have e1 : bytes ⟨kind, 0, 0, 0, news, puts⟩ = num 1 kind ++ (num 1 (news.length : Int) ++ (news.flatMap encF ++ (num 1 (puts.length : Int) ++ puts.flatMap encP))) := by rw [e]; rfl
    have e2 : bytes ⟨kind, 0, 0, 0, news, puts⟩ = (num 1 kind ++ num 1 (news.length : Int)) ++ (news.flatMap encF ++ (num 1 (puts.length : Int) ++ puts.flatMap encP)) := by rw [e1]; simp
    have e3 : bytes ⟨kind, 0, 0, 0, news, puts⟩ = (num 1 kind ++ num 1 (news.length : Int) ++ news.flatMap encF) ++ (num 1 (puts.length : Int) ++ puts.flatMap encP) := by rw [e1]; simp
    have e4 : bytes ⟨kind, 0, 0, 0, news, puts⟩ = (num 1 kind ++ num 1 (news.length : Int) ++ news.flatMap encF ++ num 1 (puts.length : Int)) ++ (puts.flatMap encP ++ []) := by rw [e1]; simp
    have k1 : said (bytes ⟨kind, 0, 0, 0, news, puts⟩) 1 1 = news.length := by rw [e1, said_app _ _ _ _ _ (num_length _ _) (num_length _ _), val_num1 (by omega) (by omega)]
    have k2 : rowAt freAt 39 (bytes ⟨kind, 0, 0, 0, news, puts⟩) 2 news.length = news := by
      rw [e2]
      exact rowAt_enc news _ _ 2 (by simp [num_length]) wf (fun x hx p t i hi => freAt_enc (hk.1 x hx) (newsOk_all hn x hx) p t i hi)
    have k3 : said (bytes ⟨kind, 0, 0, 0, news, puts⟩) (2 + news.length * 39) 1 = puts.length := by
      rw [e3, said_app _ _ _ _ _ (by rw [List.length_append, List.length_append, num_length, num_length, flat_len wf]) (num_length _ _), val_num1 (by omega) (by omega)]
    have k4 : rowAt puAt 36 (bytes ⟨kind, 0, 0, 0, news, puts⟩) (2 + news.length * 39 + 1) puts.length = puts := by
      rw [e4]
      exact rowAt_enc puts _ _ _ (by rw [List.length_append, List.length_append, List.length_append, num_length, num_length, num_length, flat_len wf]) wp (fun x hx p t i hi => puAt_enc (hk.2 x hx) (putsOk_all (by omega) hp x hx) p t i hi)
    rw [k1]
    simp only [Int.toNat_natCast]
    rw [k2, k3]
    simp only [Int.toNat_natCast]
    rw [k4]
  · rw [if_neg k1] at hr e ⊢
    by_cases k2 : kind = 2
    · rw [if_pos k2] at hr e ⊢
      simp only [Bool.and_eq_true, decide_eq_true_eq, within] at hr
      obtain ⟨⟨⟨hb, rfl⟩, ha⟩, hn⟩ := hr
      obtain ⟨e1, e2⟩ := bare_nil hb
      dsimp only at e1 e2
      subst e1 e2
      have e3 : bytes ⟨kind, at_, n, 0, [], []⟩ = num 1 kind ++ (num 2 at_ ++ num 2 n) := by rw [e]; rfl
      have e4 : bytes ⟨kind, at_, n, 0, [], []⟩ = (num 1 kind ++ num 2 at_) ++ (num 2 n ++ []) := by rw [e3]; simp
      have k3 : said (bytes ⟨kind, at_, n, 0, [], []⟩) 1 2 = at_ := by rw [e3, said_app _ _ _ _ _ (num_length _ _) (num_length _ _), val_num2 (by omega) (by omega)]
      have k4 : said (bytes ⟨kind, at_, n, 0, [], []⟩) 3 2 = n := by rw [e4, said_app _ _ _ _ _ (by simp [num_length]) (num_length _ _), val_num2 (by omega) (by omega)]
      rw [k3, k4]
    · rw [if_neg k2] at hr e ⊢
      by_cases k3 : kind = 3 ∨ kind = 4 ∨ kind = 5
      · rw [if_pos k3] at hr
        simp only [Bool.and_eq_true, decide_eq_true_eq, within] at hr
        obtain ⟨⟨⟨hb, rfl⟩, rfl⟩, hn⟩ := hr
        obtain ⟨e1, e2⟩ := bare_nil hb
        dsimp only at e1 e2
        subst e1 e2
        have e3 : bytes ⟨kind, 0, 0, snap, [], []⟩ = num 1 kind ++ (num 4 snap ++ []) := by rw [e]; simp
        have k4 : said (bytes ⟨kind, 0, 0, snap, [], []⟩) 1 4 = snap := by rw [e3, said_app _ _ _ _ _ (num_length _ _) (num_length _ _), val_num4 (by omega) (by omega)]
        rw [k4]
      · rw [if_neg k3] at hr
        simp at hr
theorem refParse_ok {b : List Int} (hb : Bs b) : OkV (refParse b) := by
  unfold refParse
  dsimp only
  split
  · refine ⟨fun f hf => ?_, fun f hf => ?_⟩
    · obtain ⟨j, _, rfl⟩ := List.mem_map.1 hf
      exact ⟨pad_len _ _, (hb.drop _).pad _⟩
    · obtain ⟨j, _, rfl⟩ := List.mem_map.1 hf
      exact ⟨pad_len _ _, (hb.drop _).pad _⟩
  · split
    · exact ⟨by simp, by simp⟩
    · exact ⟨by simp, by simp⟩

/-! ### Both say the same -/
theorem pget_some {b : List Int} {o : OpV} (hb : Bs b) (h : pget b = some o) : bytes o = b ∧ right o = true ∧ OkV o := by
  unfold pget at h
  split at h
  · simp at h
  · rename_i hc
    simp only [Bool.or_eq_true, decide_eq_true_eq, Bool.not_eq_true', not_or, Bool.not_eq_true, Nat.not_lt, Bool.not_eq_false] at hc
    obtain rfl := Option.some.inj h
    exact ⟨parse_back hb hc.1.1 (List.eq_nil_of_length_eq_zero (by omega)), hc.2, parse_ok hb⟩
theorem pget_bytes {o : OpV} (hr : right o = true) (hk : OkV o) : pget (bytes o) = some o := by
  have := parse_bytes hr hk []
  rw [List.append_nil] at this
  unfold pget
  rw [this]
  simp [hr]
theorem pget_more {o : OpV} (hr : right o = true) (hk : OkV o) {t : List Int} (ht : 0 < t.length) : pget (bytes o ++ t) = none := by
  unfold pget
  rw [parse_bytes hr hk t]
  simp [ht]
theorem bytes_bs {o : OpV} (hk : OkV o) : Bs (bytes o) := by
  have hf : ∀ {α : Type} (enc : α → List Int) (l : List α), (∀ x ∈ l, Bs (enc x)) → Bs (l.flatMap enc) := fun enc l h x hx => by
    obtain ⟨y, hy, hx⟩ := List.mem_flatMap.1 hx
    exact h y hy x hx
  unfold bytes
  refine (Bs.num _ _).app ?_
  split
  · exact (Bs.num _ _).app ((hf _ _ (fun x hx => encF_bs (hk.1 x hx))).app ((Bs.num _ _).app (hf _ _ (fun x hx => encP_bs (hk.2 x hx)))))
  · split
    · exact (Bs.num _ _).app (Bs.num _ _)
    · exact Bs.num _ _
theorem pget_cut {o : OpV} (hr : right o = true) (hk : OkV o) {k : Nat} (hc : k < (bytes o).length) : pget ((bytes o).take k) = none := by
  cases h : pget ((bytes o).take k) with
  | none => rfl
  | some o' =>
    exfalso
    obtain ⟨h1, h2, h3⟩ := pget_some ((bytes_bs hk).take k) h
    have e1 := parse_bytes h2 h3 ((bytes o).drop k)
    rw [h1, List.take_append_drop] at e1
    have e2 := parse_bytes hr hk []
    rw [List.append_nil, e1] at e2
    have : (bytes o).drop k = [] := by
      have := congrArg (fun x => x.2.l) e2
      simpa using this
    have hl := congrArg List.length this
    simp at hl
    omega
theorem pget_rget {b : List Int} (hb : Bs b) : rget b = pget b := by
  cases h : pget b with
  | some o =>
    obtain ⟨h1, h2, h3⟩ := pget_some hb h
    have e : refParse b = o := by rw [← h1]; exact refParse_bytes h2 h3
    unfold rget
    rw [e]
    simp [h1, h2]
  | none =>
    unfold rget
    split
    · rename_i hc
      simp only [Bool.and_eq_true, decide_eq_true_eq] at hc
      exfalso
      have := pget_bytes hc.1 (refParse_ok hb)
      rw [hc.2, h] at this
      simp at this
    · rfl
theorem bytes_len {o : OpV} (hr : right o = true) (hk : OkV o) : (bytes o).length ≤ 1353 ∧ 5 ≤ (bytes o).length + 2 := by
  unfold bytes
  rw [List.length_append, num_length]
  split
  · rename_i k1
    unfold right at hr
    rw [if_pos k1] at hr
    simp only [Bool.and_eq_true, decide_eq_true_eq, writeOk] at hr
    rw [List.length_append, List.length_append, List.length_append, num_length, num_length, flat_len (fun x hx => encF_len (hk.1 x hx)), flat_len (fun x hx => encP_len (hk.2 x hx))]
    omega
  · split
    · simp [num_length]
    · simp [num_length]

end Go.Proofs.YtlagkfiafelnnaaDoor
