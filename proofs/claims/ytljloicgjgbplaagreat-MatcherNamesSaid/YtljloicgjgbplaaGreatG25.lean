/- Walks: tags, errors, matches, Match and Great of a compound, by the reference. From a reading to words on memory: a compound. Conditions: as each states. -/
import Derived.Test.YtljloicgjgbplaaGreatG19
import Derived.Test.YtljloicgjgbplaaGreatG18
import Derived.Test.YtljloicgjgbplaaGreatG08
import Derived.Deep.RegionHeld3
import Derived.Test.YtljloicgjgbplaaGreatG24
import Derived.Test.YtljloicgjgbplaaGreatG10
import Derived.Test.YtljloicgjgbplaaGreatG23
import Derived.Test.YtljloicgjgbplaaGreatG22
import Derived.Test.YtljloicgjgbplaaGreatG21
import Derived.SizedLaws
import Derived.Test.YtljloicgjgbplaaGreatG03
import Derived.Lib.IndexAny
namespace Go.Proofs.YtljloicgjgbplaaGreat
open Go.RowKit

set_option maxRecDepth 100000 in
theorem rtagged_ok (A : Option Addr) (n c : Nat) (T : List ANode) (j : Nat) (tag : ByteArray) (w : World) (h : IsTree w A n T) (hj : j < n) :
    Calls Tryz.prog 117 #[.agg #[.slice A n c], .int .i64 j, .string tag] w fun r w' => r = .returned (.bool (tagF T j tag)) ∧ Below w.heap.size w w' := by
  have ho := hide h.2.2.2
  have hT := hide h
  have hl := h.1
  clear h
  have hB0 := below_alloc (Below.refl w.heap.size w) (.cells #[.slice A n c] 24)
  have hbox0 : (w.alloc (.cells #[.slice A n c] 24)).cell? ⟨w.heap.size, 0, none⟩ = some (.slice A n c) := by go_simp
  obtain ⟨bb, off, aA, cA, aC, cC, rfl, hbl, c0, -, -, -, -, -⟩ := ho.out (by omega)
  have c0' := c0 j hj
  have q1 : (0 : Int) ≤ (j : Int) := by omega
  have q2 : (j : Int) < (n : Int) := by omega
  obtain ⟨nt, hnt⟩ : ∃ x, (nd T j).tag = x := ⟨_, rfl⟩
  rw [hnt] at c0'
  have g0 := (old hB0 _ _ hbl).trans c0'
  have hV0 : tagF T j tag = (decide (tag.size = 0) || (decide (tag = ⟨#[42]⟩) || decide (tag = nt))) := by unfold tagF; rw [hnt]
  rcases tag_ways tag with hw | hw | ⟨hw1, hw2⟩
  · have hV : Hid (tagF T j tag = true) := by show _ = _; rw [hV0, decide_eq_true hw]; rfl
    have d1 := (toList_nil tag).2 hw
    have d2 : tag.toList.isEmpty = true := by rw [d1]; rfl
    clear c0 hnt hV0 hw c0'
    go_enter Tryz.func117, Tryz.ntmps117
    go_wp2
    go_ret
    exact ⟨ret_bool hV.out.symm, hB0⟩
  · subst hw
    have hV : Hid (tagF T j ⟨#[42]⟩ = true) := by show _ = _; rw [hV0, decide_eq_true (p := (⟨#[42]⟩ : ByteArray) = ⟨#[42]⟩) rfl]; simp
    clear c0 hnt hV0 c0'
    go_enter Tryz.func117, Tryz.ntmps117
    go_wp2
    go_ret
    exact ⟨ret_bool hV.out.symm, hB0⟩
  · have hV : Hid (tagF T j tag = (nt.toList == tag.toList)) := by
      show _ = _
      rw [hV0, decide_eq_false hw1, decide_eq_false hw2, Bool.false_or, Bool.false_or]
      by_cases h : tag = nt
      · rw [decide_eq_true h, str_eq h.symm]
      · rw [decide_eq_false h, str_ne fun h' => h h'.symm]
    have d1 := mt (toList_nil tag).1 hw1
    have d2 : tag.toList.isEmpty = false := by rw [List.isEmpty_eq_false_iff]; exact d1
    have d3 : (tag.toList == (⟨#[42]⟩ : ByteArray).toList) = false := str_ne hw2
    have d4 : (⟨#[42]⟩ : ByteArray).toList = [42] := by rw [ByteArray.toList_eq]
    rw [d4] at d3
    clear c0 hnt hV0 hw1 hw2 d4 c0'
    go_enter Tryz.func117, Tryz.ntmps117
    go_wp2
    go_ret
    exact ⟨ret_bool hV.out.symm, hB0⟩
section
open Go.ChangeShapes Go.WideShapes Go.ChangeAt Go.RowKit Go.Deep
section
variable {H : Type} {enc : TypeId × Value → H} {w : World} {base : Nat} {spare : Nat → Bool} {held : Bool}
theorem simple_cells : Tryz.prog.cellsOf 41 = 9 := by kernel_rfl
end
end
end Go.Proofs.YtljloicgjgbplaaGreat
/- Walks: which elements match a compound, by the reference. No condition. -/
namespace Go.Proofs.YtljloicgjgbplaaGreat
open Go.RowKit

/-- The first k of n truth values in a block are F's. -/
def Bs (wr : World) (g n k : Nat) (F : Nat → Bool) : Prop :=
  ∃ cs : Array Value, wr.heap[g]? = some (.cells cs 4 (0, 0)) ∧ cs.size = n ∧ ∀ j, j < k → cs[j]? = some (.bool (F j))
theorem Bs.set {wr : World} {g n k : Nat} {F : Nat → Bool} (h : Bs wr g n k F) (hk : k < n) {v : Bool} (hv : v = F k) : Bs (wr.setCell ⟨g, k, none⟩ (.bool v)) g n (k + 1) F := by
  obtain ⟨cs, h1, h2, h3⟩ := h
  subst hv
  refine ⟨_, blk_set h1 k _, by simp [h2], fun j hj => ?_⟩
  by_cases hjk : j = k
  · subst hjk; simp [h2, hk]
  · rw [Array.getElem?_setIfInBounds_ne (by omega)]; exact h3 j (by omega)
theorem Bs.below {w w' : World} {g n k : Nat} {F : Nat → Bool} (h : Bs w g n k F) (hb : Below w.heap.size w w') : Bs w' g n k F := by
  obtain ⟨cs, h1, h2, h3⟩ := h
  exact ⟨cs, (hb.block g (blk_lt h1)).trans h1, h2, h3⟩
theorem Bs.isBools {w : World} {g n : Nat} {F : Nat → Bool} (h : Bs w g n n F) (hn : n ≤ 1000) : IsBools w (some ⟨g, 0, none⟩) n ((List.range n).map F) := by
  obtain ⟨cs, h1, h2, h3⟩ := h
  refine ⟨by simp, by omega, fun h0 => ⟨g, 0, rfl, blk_lt h1, fun j hj => ?_⟩⟩
  rw [Nat.zero_add, blk_cell h1, h3 j hj]
  simp [bx, hj]
theorem Bs.own {w : World} {g n base : Nat} {F : Nat → Bool} (h : Bs w g n n F) (hb : base ≤ g) (hn : n ≤ 1000) : w.ownsRow base 4 1 (.slice (some ⟨g, 0, none⟩) n n) n (bools ((List.range n).map F)) := by
  obtain ⟨cs, h1, h2, h3⟩ := h
  refine ⟨by simp [bools], .inr ⟨g, n, cs, rfl, hb, h1, Nat.le_refl _, by unfold maxLen; omega, by omega, ?_⟩⟩
  refine List.ext_getElem? fun j => ?_
  by_cases hj : j < n
  · rw [List.getElem?_take_of_lt (by omega), Array.getElem?_toList, h3 j hj]
    simp [bools, hj]
  · rw [List.getElem?_eq_none (by simp; omega), List.getElem?_eq_none (by simp [bools]; omega)]
theorem bx_map (F : Nat → Bool) {n j : Nat} (h : j < n) : bx ((List.range n).map F) j = F j := by simp [bx, h]
theorem Bs.new (W : World) (n : Nat) (F : Nat → Bool) : Bs (W.alloc (.cells (madeCells #[.bool false] n) 4)) W.heap.size n 0 F :=
  ⟨_, blk_new _ _ _, by simp [madeCells], fun j hj => absurd hj (by omega)⟩

end Go.Proofs.YtljloicgjgbplaaGreat
/- Words on memory: lists of complex selectors, level by level. No condition. -/
namespace Go.Proofs.YtljloicgjgbplaaGreat
open Go.RowKit

/-- A simple selector over lists of X. -/
structure SimX (X : Type) where
  kind : Int
  name : ByteArray
  op : Int
  val : ByteArray
  fold : Bool
  a : Int
  b : Int
  of : Bool
  list : List X
structure CompX (X : Type) where
  tag : ByteArray
  sims : List (SimX X)
structure CpxX (X : Type) where
  lead : Int
  parts : List (CompX X)
  combs : List Int
instance {X : Type} : Inhabited (SimX X) := ⟨⟨0, .empty, 0, .empty, false, 0, 0, false, []⟩⟩
instance {X : Type} : Inhabited (CompX X) := ⟨⟨.empty, []⟩⟩
def sy {X : Type} (l : List (SimX X)) (j : Nat) : SimX X := l.getD j default
def px {X : Type} (l : List (CompX X)) (j : Nat) : CompX X := l.getD j default
/-- Complex selectors with lists in lists so many times. -/
def SelL : Nat → Type
  | 0 => Empty
  | n + 1 => CpxX (SelL n)

/-- How an element of a list lies in memory. -/
abbrev Lies (X : Type) := World → Int → Option Addr → Nat → Nat → Option Addr → Nat → Nat → X → Prop
/-- What lies so stays so. -/
def Stays {X : Type} (V : Lies X) : Prop := ∀ (w w' : World) (ld : Int) (PA : Option Addr) (pn pc : Nat) (KA : Option Addr) (kn kc : Nat) (x : X), Below w.heap.size w w' → V w ld PA pn pc KA kn kc x → V w' ld PA pn pc KA kn kc x
section
variable {X : Type} (V : Lies X)
def IsRow (w : World) (A : Option Addr) (n : Nat) (l : List X) : Prop :=
  l.length = n ∧ n ≤ 9223372036854775807 ∧ (0 < n → ∃ b off, A = some ⟨b, off, none⟩ ∧ b < w.heap.size ∧ ∀ j x, l[j]? = some x → ∃ (ld : Int) (PA : Option Addr) (pn pc : Nat) (KA : Option Addr) (kn kc : Nat),
    w.cell? ⟨b, off + j * 3, none⟩ = some (.int .u8 ld) ∧ w.cell? ⟨b, off + j * 3 + 1, none⟩ = some (.slice PA pn pc) ∧ w.cell? ⟨b, off + j * 3 + 2, none⟩ = some (.slice KA kn kc) ∧ V w ld PA pn pc KA kn kc x)
structure SimRel (w : World) (s : Sim) (x : SimX X) : Prop where
  kind : s.kind = x.kind
  name : s.name = x.name
  op : s.op = x.op
  val : s.val = x.val
  fold : s.fold = x.fold
  a : s.a = x.a
  b : s.b = x.b
  of : s.of = x.of
  ln : s.ln = x.list.length
  lc : s.ln ≤ s.lc
  lc' : s.lc ≤ 9223372036854775807
  k8 : 0 ≤ s.kind ∧ s.kind ≤ 255
  o8 : 0 ≤ s.op ∧ s.op ≤ 255
  ns : s.name.size ≤ 9223372036854775807
  vs : s.val.size ≤ 9223372036854775807
  a64 : -9223372036854775808 ≤ s.a ∧ s.a ≤ 9223372036854775807
  b64 : -9223372036854775808 ≤ s.b ∧ s.b ≤ 9223372036854775807
  row : IsRow V w s.LA s.ln x.list
def IsSimL (w : World) (A : Option Addr) (n : Nat) (l : List (SimX X)) : Prop := l.length = n ∧ ∃ S : List Sim, IsSims w A n S ∧ ∀ j, j < n → SimRel V w (sm S j) (sy l j)
def IsParts (w : World) (A : Option Addr) (n : Nat) (l : List (CompX X)) : Prop :=
  l.length = n ∧ n ≤ 9223372036854775807 ∧ (0 < n → ∃ (b off : Nat) (SA : Nat → Option Addr) (SC : Nat → Nat), A = some ⟨b, off, none⟩ ∧ b < w.heap.size ∧
    (∀ j, j < n → w.cell? ⟨b, off + j * 2, none⟩ = some (.string (px l j).tag)) ∧
    (∀ j, j < n → w.cell? ⟨b, off + j * 2 + 1, none⟩ = some (.slice (SA j) (px l j).sims.length (SC j))) ∧
    (∀ j, j < n → IsSimL V w (SA j) (px l j).sims.length (px l j).sims ∧ (px l j).sims.length ≤ SC j ∧ SC j ≤ 9223372036854775807 ∧ (px l j).tag.size ≤ 9223372036854775807))
structure IsCpx (w : World) (ld : Int) (PA : Option Addr) (pn pc : Nat) (KA : Option Addr) (kn kc : Nat) (c : CpxX X) : Prop where
  lead : ld = c.lead
  l8 : 0 ≤ ld ∧ ld ≤ 255
  lenP : pn = c.parts.length
  lenK : kn = c.combs.length
  rowP : IsParts V w PA pn c.parts
  rowK : IsU8 w KA kn c.combs
  capP : pn ≤ pc ∧ pc ≤ 9223372036854775807
  capK : kn ≤ kc ∧ kc ≤ 9223372036854775807
variable {V}
theorem IsRow.below (hV : Stays V) {w w' : World} {A : Option Addr} {n : Nat} {l : List X} (h : IsRow V w A n l) (hb : Below w.heap.size w w') : IsRow V w' A n l := by
  obtain ⟨h1, h2, h3⟩ := h
  refine ⟨h1, h2, fun hn => ?_⟩
  obtain ⟨b, off, ha, hbl, hc⟩ := h3 hn
  refine ⟨b, off, ha, Nat.lt_of_lt_of_le hbl hb.size, fun j x hx => ?_⟩
  obtain ⟨ld, PA, pn, pc, KA, kn, kc, c0, c1, c2, hv⟩ := hc j x hx
  exact ⟨ld, PA, pn, pc, KA, kn, kc, cell_later hb c0, cell_later hb c1, cell_later hb c2, hV _ _ _ _ _ _ _ _ _ _ hb hv⟩
theorem SimRel.below (hV : Stays V) {w w' : World} {s : Sim} {x : SimX X} (h : SimRel V w s x) (hb : Below w.heap.size w w') : SimRel V w' s x := { h with row := h.row.below hV hb }
theorem IsSimL.below (hV : Stays V) {w w' : World} {A : Option Addr} {n : Nat} {l : List (SimX X)} (h : IsSimL V w A n l) (hb : Below w.heap.size w w') : IsSimL V w' A n l := by
  obtain ⟨h1, S, h2, h3⟩ := h
  exact ⟨h1, S, h2.below hb, fun j hj => (h3 j hj).below hV hb⟩
theorem IsParts.below (hV : Stays V) {w w' : World} {A : Option Addr} {n : Nat} {l : List (CompX X)} (h : IsParts V w A n l) (hb : Below w.heap.size w w') : IsParts V w' A n l := by
  obtain ⟨h1, h2, h3⟩ := h
  refine ⟨h1, h2, fun hn => ?_⟩
  obtain ⟨b, off, SA, SC, ha, hbl, c0, c1, hc⟩ := h3 hn
  exact ⟨b, off, SA, SC, ha, Nat.lt_of_lt_of_le hbl hb.size, fun j hj => cell_later hb (c0 j hj), fun j hj => cell_later hb (c1 j hj), fun j hj => ⟨(hc j hj).1.below hV hb, (hc j hj).2⟩⟩
theorem IsCpx.below (hV : Stays V) : Stays (IsCpx V) := fun _ _ _ _ _ _ _ _ _ _ hb h => { h with rowP := h.rowP.below hV hb, rowK := h.rowK.below hb }
theorem isRow_nil (w : World) : IsRow V w none 0 [] := ⟨rfl, by omega, fun h => absurd h (by omega)⟩
end
/-- How a complex selector lies in memory. -/
def IsV : (n : Nat) → Lies (SelL n)
  | 0 => fun _ _ _ _ _ _ _ _ _ => False
  | n + 1 => IsCpx (IsV n)
theorem isV_stays : ∀ n, Stays (IsV n)
  | 0 => fun _ _ _ _ _ _ _ _ _ _ _ h => h.elim
  | n + 1 => IsCpx.below (isV_stays n)

/-! ## What is right -/
/-- A text of at most so many bytes, none of them 0. -/
def zeroB (s : ByteArray) (most : Nat) : Bool := decide (s.size ≤ most) && !(s.data.toList.contains 0)
def nmB (s : ByteArray) : Bool := decide (s.size ≠ 0) && zeroB s 64
def smB (s : ByteArray) : Bool := nmB s && decide (foldS s = s)
def tagB (t : ByteArray) : Bool := decide (t.size = 0) || decide (t = ⟨#[42]⟩) || smB t
/-- There may be a list in a simple selector of some kind, in a place. -/
def plB (d : Nat) (h : Bool) (kind : Int) : Bool := !(decide (d = 3) || (h && decide (kind = 14)))
section
variable {X : Type} (W : Nat → Bool → Bool → X → Bool)
/-- The list of a simple selector of some kind is right, in a place. -/
def listB (d : Nat) (h : Bool) (kind : Int) (l : List X) : Bool := plB d h kind && l.all (W (d + 1) (h || decide (kind = 14)) (decide (kind = 14)))
/-- A simple selector is right, in a place. -/
def simB (d : Nat) (h : Bool) (x : SimX X) : Bool :=
  if x.kind = 1 ∨ x.kind = 2 then nmB x.name && decide (x.op = 0) && decide (x.val.size = 0) && !x.fold && decide (x.a = 0) && decide (x.b = 0) && !x.of && decide (x.list.length = 0)
  else if x.kind = 3 then smB x.name && decide (x.op ≤ 6) && zeroB x.val 400 && (decide (x.op ≠ 0) || (decide (x.val.size = 0) && !x.fold)) && decide (x.a = 0) && decide (x.b = 0) && !x.of && decide (x.list.length = 0)
  else if 4 ≤ x.kind ∧ x.kind ≤ 14 then
    decide (x.name.size = 0) && decide (x.op = 0) && decide (x.val.size = 0) && !x.fold &&
    (if x.kind ≤ 8 then decide (x.a = 0) && decide (x.b = 0) && !x.of && decide (x.list.length = 0)
    else if x.kind ≤ 10 then decide (-1000000000 ≤ x.a ∧ x.a ≤ 1000000000 ∧ -1000000000 ≤ x.b ∧ x.b ≤ 1000000000) && (if x.of = true then decide (0 < x.list.length) && listB W d h x.kind x.list else decide (x.list.length = 0))
    else decide (x.a = 0) && decide (x.b = 0) && !x.of && (decide (x.kind ≤ 12) || decide (0 < x.list.length)) && listB W d h x.kind x.list)
  else false
def compB (d : Nat) (h : Bool) (c : CompX X) : Bool :=
  tagB c.tag && decide (c.sims.length ≤ 64) && decide (0 < c.tag.size ∨ 0 < c.sims.length) && c.sims.all (simB W d h)
def wholeB (d : Nat) (h r : Bool) (c : CpxX X) : Bool :=
  (r == decide (c.lead ≠ 0)) && decide (c.lead ≤ 4) && decide (c.combs.length + 1 = c.parts.length) && decide (c.parts.length ≤ 64) && c.combs.all (fun b => decide (1 ≤ b ∧ b ≤ 4)) && c.parts.all (compB W d h)
variable (N : List X → Nat)
def numSims (l : List (SimX X)) : Nat := (l.map fun s => N s.list).sum
def numParts (l : List (CompX X)) : Nat := (l.map fun p => numSims N p.sims).sum
/-- How many complex selectors there are in all. -/
def numL (l : List (CpxX X)) : Nat := l.length + (l.map fun c => numParts N c.parts).sum
end
def wholeV : (n : Nat) → Nat → Bool → Bool → SelL n → Bool
  | 0 => fun _ _ _ _ => false
  | n + 1 => wholeB (wholeV n)
def numV : (n : Nat) → List (SelL n) → Nat
  | 0 => fun _ => 0
  | n + 1 => numL (numV n)
def fineV (n : Nat) (l : List (SelL n)) : Bool := decide (0 < l.length) && l.all (wholeV n 0 false false)
def chkV (n : Nat) (l : List (SelL n)) : Int := if fineV n l = true then (if numV n l ≤ 64 then 0 else 4) else 8
end Go.Proofs.YtljloicgjgbplaaGreat
/- Plain: what matches a selector, level by level. No condition. -/
namespace Go.Proofs.YtljloicgjgbplaaGreat
open Go.RowKit

def rowOf (T : List ANode) (f : Nat → Bool) : List Bool := (List.range T.length).map f
theorem rowOf_len (T : List ANode) (f : Nat → Bool) : (rowOf T f).length = T.length := by simp [rowOf]
theorem rowOf_bx (T : List ANode) (f : Nat → Bool) {i : Nat} (hi : i < T.length) : bx (rowOf T f) i = f i := by simp [rowOf, bx, hi]
theorem rowOf_ext (T : List ANode) {f g : Nat → Bool} (h : ∀ i, i < T.length → f i = g i) : rowOf T f = rowOf T g := List.map_congr_left fun i hi => h i (List.mem_range.1 hi)
def rawS {X : Type} (x : SimX X) : Sim := ⟨x.kind, x.name, x.op, x.val, x.fold, x.a, x.b, x.of, none, 0, 0⟩
section
variable (T : List ANode) (m : Int) {X : Type} (L : X → Int) (C : X → List Int) (R : X → List (List Bool))
/-- An element matches a complex selector, of which what its compounds match is told. -/
def isI (x : X) (i : Nat) : Bool := rchF T (C x) (R x) (C x).length i
/-- An element has what a relative one tells. -/
def isH (x : X) (i : Nat) : Bool := hasF T i (L x) (C x) (R x)
def anyI (l : List X) (i : Nat) : Bool := l.any fun x => isI T C R x i
def anyH (l : List X) (i : Nat) : Bool := l.any fun x => isH T L C R x i
def simM (s : SimX X) (i : Nat) : Bool :=
  if s.kind = 11 ∨ s.kind = 12 then anyI T C R s.list i
  else if s.kind = 13 then !(anyI T C R s.list i)
  else if s.kind = 9 ∨ s.kind = 10 then nmatF T i s.a s.b (decide (s.kind = 10)) (rowOf T fun j => anyI T C R s.list j || !s.of)
  else if s.kind = 14 then anyH T L C R s.list i
  else matS T i (rawS s) m
def compM (c : CompX X) (i : Nat) : Bool := tagF T i c.tag && c.sims.all fun s => simM T m L C R s i
def rowsM (x : CpxX X) : List (List Bool) := x.parts.map fun c => rowOf T (compM T m L C R c)
/-- What the program tells of a simple selector with a list. -/
def toldM (s : SimX X) : List Bool := if 9 ≤ s.kind ∧ s.kind ≤ 14 then rowOf T (simM T m L C R s) else []
end
def ldV : (n : Nat) → SelL n → Int
  | 0 => fun _ => 0
  | n + 1 => fun x => CpxX.lead (X := SelL n) x
def csV : (n : Nat) → SelL n → List Int
  | 0 => fun _ => []
  | n + 1 => fun x => CpxX.combs (X := SelL n) x
def rwV (T : List ANode) (m : Int) : (n : Nat) → SelL n → List (List Bool)
  | 0 => fun _ => []
  | n + 1 => fun x => rowsM (X := SelL n) T m (ldV n) (csV n) (rwV T m n) x
/-- An element matches a list. -/
def inV (T : List ANode) (m : Int) (n : Nat) (l : List (SelL n)) (i : Nat) : Bool := anyI T (csV n) (rwV T m n) l i

/-! ## As the program asks -/
/-- A raw simple selector says what a plain one does. -/
structure SameS {X : Type} (s : Sim) (x : SimX X) : Prop where
  kind : s.kind = x.kind
  name : s.name = x.name
  op : s.op = x.op
  val : s.val = x.val
  fold : s.fold = x.fold
  a : s.a = x.a
  b : s.b = x.b
  of : s.of = x.of
  ln : s.ln = x.list.length
theorem SimRel.same {X : Type} {V : Lies X} {w : World} {s : Sim} {x : SimX X} (h : SimRel V w s x) : SameS s x := ⟨h.kind, h.name, h.op, h.val, h.fold, h.a, h.b, h.of, h.ln⟩
theorem SameS.mat {X : Type} {s : Sim} {x : SimX X} (h : SameS s x) (T : List ANode) (i : Nat) (m : Int) : matS T i s m = matS T i (rawS x) m := by
  unfold matS rawS
  rw [h.kind, h.name, h.op, h.val, h.fold]
theorem SameS.lis {X : Type} {s : Sim} {x : SimX X} (h : SameS s x) : lisS s = decide (9 ≤ x.kind ∧ x.kind ≤ 14) := by
  unfold lisS
  rw [h.kind, Bool.eq_iff_iff]
  simp
theorem tagB_small {t : ByteArray} (h : tagB t = true) : t.size ≤ 64 := by
  unfold tagB at h
  simp only [Bool.or_eq_true, decide_eq_true_eq] at h
  rcases h with (h | h) | h
  · omega
  · rw [h]; decide
  · unfold smB at h
    simp only [Bool.and_eq_true] at h
    have h1 := h.1
    unfold nmB zeroB at h1
    simp only [Bool.and_eq_true, decide_eq_true_eq] at h1
    exact h1.2.1
theorem simB_okS {X : Type} {Wf : Nat → Bool → Bool → X → Bool} {d : Nat} {h : Bool} {x : SimX X} {s : Sim} (hs : SameS s x) (hB : simB Wf d h x = true) : lisS s = true ∨ chkS s = 0 := by
  by_cases hk : 9 ≤ x.kind ∧ x.kind ≤ 14
  · left; rw [hs.lis]; exact decide_eq_true hk
  · right
    refine chkS_yes ?_
    unfold okP
    rw [hs.kind, hs.op, hs.val, hs.name, hs.a, hs.b, hs.of, hs.fold, hs.ln]
    unfold simB nmB smB nmB zeroB at hB
    split at hB
    · simp only [Bool.and_eq_true, decide_eq_true_eq, Bool.not_eq_true'] at hB
      obtain ⟨⟨⟨⟨⟨⟨⟨⟨h1, h2, -⟩, h3⟩, h4⟩, h5⟩, h6⟩, h7⟩, h8⟩, h9⟩ := hB
      rw [h5, h8]
      refine ⟨h6, h7, rfl, h9, .inr ⟨by omega, h3, h4, rfl, .inl ⟨by omega, by omega, by omega⟩⟩⟩
    · split at hB
      · simp only [Bool.and_eq_true, decide_eq_true_eq, Bool.not_eq_true', Bool.or_eq_true] at hB
        obtain ⟨⟨⟨⟨⟨⟨⟨⟨⟨h1, h2, -⟩, -⟩, h3⟩, h4, -⟩, h5⟩, h6⟩, h7⟩, h8⟩, h9⟩ := hB
        rw [h8]
        refine ⟨h6, h7, rfl, h9, .inl ⟨by assumption, by omega, by omega, h3, h4, ?_⟩⟩
        rcases h5 with h5 | ⟨h5, h10⟩
        · exact .inl h5
        · exact .inr ⟨h5, by rw [h10]; rfl⟩
      · split at hB
        · rw [if_pos (by omega)] at hB
          simp only [Bool.and_eq_true, decide_eq_true_eq, Bool.not_eq_true'] at hB
          obtain ⟨⟨⟨⟨h1, h2⟩, h3⟩, h4⟩, ⟨⟨h5, h6⟩, h7⟩, h8⟩ := hB
          rw [h4, h7]
          refine ⟨h5, h6, rfl, h8, .inr ⟨by omega, h2, h3, rfl, .inr ⟨by omega, by omega, h1⟩⟩⟩
        · cases hB
theorem compB_iff {X : Type} {Wf : Nat → Bool → Bool → X → Bool} {d : Nat} {h : Bool} {c : CompX X} : compB Wf d h c = true ↔ tagB c.tag = true ∧ c.sims.length ≤ 64 ∧ (0 < c.tag.size ∨ 0 < c.sims.length) ∧ ∀ s ∈ c.sims, simB Wf d h s = true := by
  unfold compB
  simp only [Bool.and_eq_true, decide_eq_true_eq, List.all_eq_true, and_assoc]
/-- The list of a simple selector that is right is right. -/
theorem simR_list {X : Type} {W : Nat → Bool → Bool → X → Bool} {d : Nat} {h : Bool} {s : SimX X} (hs : simB W d h s = true) (hk : 9 ≤ s.kind ∧ s.kind ≤ 14) : s.list.all (W (d + 1) (h || decide (s.kind = 14)) (decide (s.kind = 14))) = true := by
  unfold simB at hs
  rw [if_neg (by omega), if_neg (by omega), if_pos (by omega), if_neg (by omega)] at hs
  have hb : listB W d h s.kind s.list = true → s.list.all (W (d + 1) (h || decide (s.kind = 14)) (decide (s.kind = 14))) = true := fun hb => by
    unfold listB at hb
    rw [Bool.and_eq_true] at hb
    exact hb.2
  split at hs
  · split at hs
    · simp only [Bool.and_eq_true] at hs; exact hb hs.2.2.2
    · simp only [Bool.and_eq_true, decide_eq_true_eq] at hs
      rw [List.length_eq_zero_iff.1 hs.2.2]; rfl
  · simp only [Bool.and_eq_true] at hs; exact hb hs.2.2
theorem simR_anb {X : Type} {W : Nat → Bool → Bool → X → Bool} {d : Nat} {h : Bool} {s : SimX X} (hs : simB W d h s = true) (hk : s.kind = 9 ∨ s.kind = 10) : anbB s.a s.b = true := by
  unfold simB at hs
  rw [if_neg (by omega), if_neg (by omega), if_pos (by omega), if_neg (by omega), if_pos (by omega)] at hs
  simp only [Bool.and_eq_true, decide_eq_true_eq] at hs
  exact (anbB_iff _ _).2 hs.2.1
theorem sy_mem {X : Type} {l : List (SimX X)} {j : Nat} (h : j < l.length) : sy l j ∈ l := by
  unfold sy; rw [List.getD_eq_getElem?_getD, List.getElem?_eq_getElem h]; exact List.getElem_mem _
theorem compB_okC {X : Type} {Wf : Nat → Bool → Bool → X → Bool} {d : Nat} {h : Bool} {c : CompX X} {S : List Sim} (hl : S.length = c.sims.length) (hs : ∀ j, j < S.length → SameS (sm S j) (sy c.sims j)) (hB : compB Wf d h c = true) : okC c.tag S := by
  obtain ⟨h1, h2, h3, h4⟩ := compB_iff.1 hB
  exact ⟨tagB_small h1, by omega, by omega, fun j hj => simB_okS (hs j hj) (h4 _ (sy_mem (by omega)))⟩
section
variable (T : List ANode) (m : Int) {X : Type} (L : X → Int) (C : X → List Int) (R : X → List (List Bool))
theorem told_row {l : List (SimX X)} {j : Nat} (h : j < l.length) : rowB (l.map (toldM T m L C R)) j = toldM T m L C R (sy l j) := by
  unfold rowB sy
  rw [List.getD_eq_getElem?_getD, List.getElem?_map, List.getD_eq_getElem?_getD, List.getElem?_eq_getElem h]; rfl
theorem told_bx {s : SimX X} (h : 9 ≤ s.kind ∧ s.kind ≤ 14) {i : Nat} (hi : i < T.length) : bx (toldM T m L C R s) i = simM T m L C R s i := by
  unfold toldM
  rw [if_pos h, rowOf_bx T _ hi]
theorem simM_plain {s : SimX X} (h : ¬ (9 ≤ s.kind ∧ s.kind ≤ 14)) (i : Nat) : simM T m L C R s i = matS T i (rawS s) m := by
  unfold simM
  rw [if_neg (by omega), if_neg (by omega), if_neg (by omega), if_neg (by omega)]
theorem calV_comp {Wf : Nat → Bool → Bool → X → Bool} {d : Nat} {h : Bool} {c : CompX X} {S : List Sim} (hg : goodB T = true) (hm : modeB T m = true) (hl : S.length = c.sims.length) (hs : ∀ j, j < S.length → SameS (sm S j) (sy c.sims j)) (hB : compB Wf d h c = true) :
    calE T c.tag S m (c.sims.map (toldM T m L C R)) = 0 ∧ calV T c.tag S m (c.sims.map (toldM T m L C R)) = rowOf T (compM T m L C R c) := by
  have h0 : calE T c.tag S m (c.sims.map (toldM T m L C R)) = 0 := by
    unfold calE
    rw [if_pos (ccE_zero.2 ⟨hg, hm, compB_okC hl hs hB⟩), if_pos]
    refine ⟨by rw [List.length_map, hl], fun k hk hli => ?_⟩
    rw [told_row T m L C R (by omega)]
    rw [(hs k hk).lis, decide_eq_true_eq] at hli
    unfold toldM
    rw [if_pos hli, rowOf_len]
  refine ⟨h0, ?_⟩
  unfold calV
  rw [if_pos h0]
  refine List.map_congr_left fun i hi => ?_
  have hi := List.mem_range.1 hi
  unfold calF matC compM
  congr 1
  rw [Bool.eq_iff_iff, List.all_eq_true, List.all_eq_true]
  have hone : ∀ j, j < S.length → oneC T i S m (fun k => bx (rowB (c.sims.map (toldM T m L C R)) k) i) j = simM T m L C R (sy c.sims j) i := fun j hj => by
    unfold oneC
    rw [(hs j hj).lis]
    by_cases hk : 9 ≤ (sy c.sims j).kind ∧ (sy c.sims j).kind ≤ 14
    · rw [if_pos (decide_eq_true hk)]
      show bx (rowB (c.sims.map (toldM T m L C R)) j) i = _
      rw [told_row T m L C R (by omega), told_bx T m L C R hk hi]
    · rw [if_neg (by rw [decide_eq_true_eq]; exact hk), simM_plain T m L C R hk, (hs j hj).mat]
  constructor
  · intro hal s hsm
    obtain ⟨j, hj, rfl⟩ := List.getElem_of_mem hsm
    have h1 := hal j (List.mem_range.2 (by omega))
    rw [hone j (by omega)] at h1
    unfold sy at h1
    rwa [List.getD_eq_getElem?_getD, List.getElem?_eq_getElem hj] at h1
  · intro hal j hj
    have hj := List.mem_range.1 hj
    rw [hone j hj]
    exact hal _ (sy_mem (by omega))
theorem rowsM_len (x : CpxX X) : (rowsM T m L C R x).length = x.parts.length := by simp [rowsM]
theorem rowsM_row {x : CpxX X} {j : Nat} (h : j < x.parts.length) : rowB (rowsM T m L C R x) j = rowOf T (compM T m L C R (px x.parts j)) := by
  unfold rowB rowsM px
  rw [List.getD_eq_getElem?_getD, List.getElem?_map, List.getD_eq_getElem?_getD, List.getElem?_eq_getElem h]; rfl
theorem wholeB_told {Wf : Nat → Bool → Bool → X → Bool} {d : Nat} {h r : Bool} {x : CpxX X} (hB : wholeB Wf d h r x = true) : toldB T.length x.combs (rowsM T m L C R x) = true ∧ (r = true → x.lead ≠ 0 ∧ x.lead ≤ 4) := by
  unfold wholeB at hB
  simp only [Bool.and_eq_true, beq_iff_eq, decide_eq_true_eq, List.all_eq_true, and_assoc] at hB
  obtain ⟨h1, h2, h3, h4, h5, -⟩ := hB
  refine ⟨(toldB_iff _ _ _).2 ?_, fun hr => ⟨by rw [hr] at h1; simpa using h1.symm, h2⟩⟩
  rw [rowsM_len]
  refine ⟨by omega, h4, by omega, fun j hj => ?_, fun j hj => ?_⟩
  · refine h5 _ ?_
    unfold ix
    rw [List.getD_eq_getElem?_getD, List.getElem?_eq_getElem hj]
    exact List.getElem_mem _
  · rw [rowsM_row T m L C R hj, rowOf_len]
end
end Go.Proofs.YtljloicgjgbplaaGreat
/- From readings to words on memory: a list of complex selectors, with lists in lists as deep as it is read. Condition: no text and no list is larger than a machine holds. -/
namespace Go.Proofs.YtljloicgjgbplaaGreat
open Go.ChangeShapes Go.WideShapes Go.ChangeAt Go.RowKit Go.Deep

/-! ## How large texts and lists are -/
section
variable {X : Type} (Z : X → Prop)
def szS (s : SimX X) : Prop := s.name.size ≤ 140737488351232 ∧ s.val.size ≤ 140737488351232 ∧ ∀ x ∈ s.list, Z x
def szC (c : CompX X) : Prop := c.tag.size ≤ 140737488351232 ∧ ∀ s ∈ c.sims, szS Z s
def szP (x : CpxX X) : Prop := x.combs.length ≤ 140737488351232 ∧ ∀ c ∈ x.parts, szC Z c
end
def szV : (n : Nat) → SelL n → Prop
  | 0 => fun _ => True
  | n + 1 => szP (X := SelL n) (szV n)
section
variable {H : Type} {P : Program}
theorem mem_wAll {e : TypeId} : ∀ {l : List (DataW H)} {d : DataW H}, d ∈ l → ∀ n ∈ d.weights P e, n ∈ DataW.weightsAll P e l
  | [], _, hd, _, _ => by cases hd
  | x :: l, d, hd, n, hn => by
    rw [DataW.weightsAll, List.mem_append]
    rcases List.mem_cons.1 hd with rfl | hd
    · exact .inl hn
    · exact .inr (mem_wAll hd n hn)
theorem w_slice {t e : TypeId} (hu : P.underlying t = some (.slice e)) {els spare : List (DataW H)} {d : DataW H} (hd : d ∈ els) : ∀ n ∈ d.weights P e, n ∈ (DataW.slice els spare).weights P t := fun n hn => by
  unfold DataW.weights
  rw [hu]
  exact List.mem_cons_of_mem _ (List.mem_append_left _ (mem_wAll hd n hn))
theorem w_len {t e : TypeId} (hu : P.underlying t = some (.slice e)) {els spare : List (DataW H)} : (els.length + spare.length) * P.bytesOf e ∈ (DataW.slice els spare).weights P t := by
  unfold DataW.weights
  rw [hu]
  exact List.mem_cons_self
theorem w_struct {t : TypeId} {fs : Array Field} (hu : P.underlying t = some (.struct fs)) {parts : List (DataW H)} {j : Nat} {f : Field} {d : DataW H} (hj : fs[j]? = some f) (hd : parts[j]? = some d) : ∀ n ∈ d.weights P f.type, n ∈ (DataW.agg parts).weights P t := fun n hn => by
  unfold DataW.weights
  rw [hu]
  exact DataW.weights_mem_each (by rw [List.getElem?_map, Array.getElem?_toList, hj]; rfl) hd n hn
theorem w_str {t : TypeId} {bytes : List UInt8} : bytes.length ∈ (DataW.lit (H := H) (.string bytes)).weights P t := by
  unfold DataW.weights
  exact List.mem_cons_self
end
/-- No part of what is read is larger than a machine holds. -/
def Small {H : Type} (t : TypeId) (d : DataW H) : Prop := ∀ n ∈ d.weights Tryz.prog t, n ≤ reachBytes
theorem small_str {H : Type} {t : TypeId} {s : ByteArray} (h : Small t (DataW.lit (H := H) (.string s.data.toList))) : s.size ≤ 140737488351232 := by
  have := h _ w_str
  unfold reachBytes at this
  simpa using this
section
variable {H : Type} {enc : TypeId × Value → H} {w : World} {base : Nat} {spare : Nat → Bool} {held : Bool}
/-- A field of what is read. -/
theorem field_of {t : TypeId} {fs : Array Field} (hu : Tryz.prog.underlying t = some (.struct fs)) {n : Nat} {cs : List Value} {xs : List (DataW H × List MemPlace)} (hlen : xs.length = fs.size)
    (hg : ∀ (i : Nat) (f : Field), fs[i]? = some f → DataW.trod enc Tryz.prog w base spare held n f.type ((cs.drop f.offset).take (Tryz.prog.cellsOf f.type)) = xs[i]?) (hs : Small t (DataW.agg (xs.map (·.1))))
    (j : Nat) (f : Field) (l : List Value) (hj : fs[j]? = some f) (hl : (cs.drop f.offset).take (Tryz.prog.cellsOf f.type) = l) :
    ∃ y, DataW.trod enc Tryz.prog w base spare held n f.type l = some y ∧ Small f.type y.1 := by
  have h1 := hg j f hj
  have hjl : j < xs.length := by rw [hlen]; exact (Array.getElem?_eq_some_iff.1 hj).1
  rw [hl, List.getElem?_eq_getElem hjl] at h1
  exact ⟨_, h1, fun n hn => hs n (w_struct hu hj (by rw [List.getElem?_map, List.getElem?_eq_getElem hjl]; rfl) n hn)⟩
set_option maxRecDepth 100000 in
theorem sim_cells2 {fuel : Nat} {l : List Value} {x : DataW H × List MemPlace} (hl : l.length = 9) (h : DataW.trod enc Tryz.prog w base spare held fuel 41 l = some x) (hsm : Small 41 x.1) :
    ∃ (s : Sim) (n : Nat) (y : DataW H × List MemPlace), fuel = n + 1 ∧ l = (simC s).toList ∧ (0 ≤ s.kind ∧ s.kind ≤ 255) ∧ (0 ≤ s.op ∧ s.op ≤ 255) ∧ s.name.size ≤ 140737488351232 ∧ s.val.size ≤ 140737488351232 ∧
      (-9223372036854775808 ≤ s.a ∧ s.a ≤ 9223372036854775807) ∧ (-9223372036854775808 ≤ s.b ∧ s.b ≤ 9223372036854775807) ∧
      DataW.trod enc Tryz.prog w base spare held n 25 [.slice s.LA s.ln s.lc] = some y ∧ Small 25 y.1 ∧ s.ln ≤ s.lc ∧ s.lc ≤ 9223372036854775807 := by
  match l, hl with
  | [c0, c1, c2, c3, c4, c5, c6, c7, c8], _ =>
    obtain ⟨xs, n, hfu, hx, _, hlen, hg⟩ := DataW.trod_struct Tryz.underlying41 h
    subst hx
    have hk1 : Tryz.prog.cellsOf 5 = 1 := by kernel_rfl
    have hk2 : Tryz.prog.cellsOf 9 = 1 := by kernel_rfl
    have hk3 : Tryz.prog.cellsOf 4 = 1 := by kernel_rfl
    have hk4 : Tryz.prog.cellsOf 39 = 2 := by kernel_rfl
    have hk5 : Tryz.prog.cellsOf 25 = 1 := by kernel_rfl
    have get := field_of Tryz.underlying41 hlen hg hsm
    obtain ⟨y0, t0, -⟩ : ∃ y, DataW.trod enc Tryz.prog w base spare held n 5 [c0] = some y ∧ Small 5 y.1 := get 0 _ [c0] rfl (by show List.take (Tryz.prog.cellsOf 5) _ = _; rw [hk1]; rfl)
    obtain ⟨y1, t1, s1⟩ : ∃ y, DataW.trod enc Tryz.prog w base spare held n 9 [c1] = some y ∧ Small 9 y.1 := get 1 _ [c1] rfl (by show List.take (Tryz.prog.cellsOf 9) _ = _; rw [hk2]; rfl)
    obtain ⟨y2, t2, -⟩ : ∃ y, DataW.trod enc Tryz.prog w base spare held n 5 [c2] = some y ∧ Small 5 y.1 := get 2 _ [c2] rfl (by show List.take (Tryz.prog.cellsOf 5) _ = _; rw [hk1]; rfl)
    obtain ⟨y3, t3, s3⟩ : ∃ y, DataW.trod enc Tryz.prog w base spare held n 9 [c3] = some y ∧ Small 9 y.1 := get 3 _ [c3] rfl (by show List.take (Tryz.prog.cellsOf 9) _ = _; rw [hk2]; rfl)
    obtain ⟨y4, t4, -⟩ : ∃ y, DataW.trod enc Tryz.prog w base spare held n 4 [c4] = some y ∧ Small 4 y.1 := get 4 _ [c4] rfl (by show List.take (Tryz.prog.cellsOf 4) _ = _; rw [hk3]; rfl)
    obtain ⟨y5, t5, s5⟩ : ∃ y, DataW.trod enc Tryz.prog w base spare held n 39 [c5, c6] = some y ∧ Small 39 y.1 := get 5 _ [c5, c6] rfl (by show List.take (Tryz.prog.cellsOf 39) _ = _; rw [hk4]; rfl)
    obtain ⟨y6, t6, -⟩ : ∃ y, DataW.trod enc Tryz.prog w base spare held n 4 [c7] = some y ∧ Small 4 y.1 := get 6 _ [c7] rfl (by show List.take (Tryz.prog.cellsOf 4) _ = _; rw [hk3]; rfl)
    obtain ⟨y7, t7, s7⟩ : ∃ y, DataW.trod enc Tryz.prog w base spare held n 25 [c8] = some y ∧ Small 25 y.1 := get 7 _ [c8] rfl (by show List.take (Tryz.prog.cellsOf 25) _ = _; rw [hk5]; rfl)
    obtain ⟨kd, e0, _, w0⟩ := DataW.trod_int Tryz.underlying5 t0
    obtain ⟨nm, e1, z1, w1⟩ := DataW.trod_string Tryz.underlying9 t1
    obtain ⟨op, e2, _, w2⟩ := DataW.trod_int Tryz.underlying5 t2
    obtain ⟨vl, e3, z3, w3⟩ := DataW.trod_string Tryz.underlying9 t3
    obtain ⟨fo, e4, _⟩ := DataW.trod_bool Tryz.underlying4 t4
    obtain ⟨f, e6, _⟩ := DataW.trod_bool Tryz.underlying4 t6
    subst z1 z3
    have b1 := small_str s1
    have b3 := small_str s3
    obtain ⟨zs, n5, _, hx5, _, hlen5, hg5⟩ := DataW.trod_struct Tryz.underlying39 t5
    subst hx5
    have hk6 : Tryz.prog.cellsOf 2 = 1 := by kernel_rfl
    have get5 := field_of Tryz.underlying39 hlen5 hg5 s5
    obtain ⟨ya, h0', -⟩ : ∃ y, DataW.trod enc Tryz.prog w base spare held n5 2 [c5] = some y ∧ Small 2 y.1 := get5 0 _ [c5] rfl (by show List.take (Tryz.prog.cellsOf 2) _ = _; rw [hk6]; rfl)
    obtain ⟨yb, h1', -⟩ : ∃ y, DataW.trod enc Tryz.prog w base spare held n5 2 [c6] = some y ∧ Small 2 y.1 := get5 1 _ [c6] rfl (by show List.take (Tryz.prog.cellsOf 2) _ = _; rw [hk6]; rfl)
    obtain ⟨a, ea, _, wa⟩ := DataW.trod_int Tryz.underlying2 h0'
    obtain ⟨b, eb, _, wb⟩ := DataW.trod_int Tryz.underlying2 h1'
    have hs : ∃ (LA : Option Addr) (ln lc : Nat), c8 = .slice LA ln lc ∧ ln ≤ lc ∧ lc ≤ maxLen := by
      rcases open_slice Tryz.underlying25 t7 with ⟨h0, _⟩ | ⟨a, len, cap, m, n, D, Pl, hcs, hb, hl, hm, hmm, hx, hi⟩
      · simp at h0
        exact ⟨none, 0, 0, h0, Nat.le_refl _, Nat.zero_le _⟩
      · simp at hcs
        exact ⟨some a, len, cap, hcs, hl, hm⟩
    obtain ⟨LA, ln, lc, rfl, hl1, hl2⟩ := hs
    simp at e0 e1 e2 e3 e4 e6 ea eb
    subst e0 e1 e2 e3 e4 e6 ea eb
    unfold maxLen at hl2
    exact ⟨⟨kd, nm, op, vl, fo, a, b, f, LA, ln, lc⟩, n, y7, hfu, rfl, wf_u8' w0, wf_u8' w2, b1, b3, wf_bounds wa, wf_bounds wb, t7, s7, hl1, by dsimp only; omega⟩
/-- A list that is read, element by element: what is read with less and is small. -/
theorem row_of {t e : TypeId} (hu : Tryz.prog.underlying t = some (.slice e)) {fuel : Nat} {v : Value} {x : DataW H × List MemPlace} (h : DataW.trod enc Tryz.prog w base spare held fuel t [v] = some x) (hsm : Small t x.1) :
    ∃ (A : Option Addr) (len cap : Nat), v = .slice A len cap ∧ len ≤ cap ∧ cap ≤ 9223372036854775807 ∧ len * Tryz.prog.bytesOf e ≤ 140737488351232 ∧ ∀ i, i < len → ∃ (a : Addr) (n : Nat) (cs : List Value) (y : DataW H × List MemPlace), fuel = n + 1 ∧ A = some a ∧
      cs.length = Tryz.prog.cellsOf e ∧ (∀ j, j < Tryz.prog.cellsOf e → w.cell? (a.add (i * Tryz.prog.cellsOf e + j)) = cs[j]?) ∧ DataW.trod enc Tryz.prog w base spare held n e cs = some y ∧ Small e y.1 := by
  rcases DataW.trod_slice hu h with ⟨h0, _⟩ | ⟨a, len, cap, elems, rest, n, hfu, h0, rfl, hb, hl, hm, hlen, hel, -, -⟩
  · simp at h0
    exact ⟨none, 0, 0, h0, Nat.le_refl _, Nat.zero_le _, by omega, fun i hi => absurd hi (by omega)⟩
  · simp at h0
    unfold maxLen at hm
    refine ⟨some a, len, cap, h0, hl, by omega, ?_, fun i hi => ?_⟩
    · have := hsm _ (w_len hu)
      unfold reachBytes at this
      rw [List.length_map, List.length_map, hlen] at this
      exact Nat.le_trans (Nat.mul_le_mul_right _ (Nat.le_add_right _ _)) this
    · have h1 := hel i hi
      rw [List.getElem?_eq_getElem (by omega)] at h1
      obtain ⟨cs, h2, h3⟩ := Option.bind_eq_some_iff.1 h1
      obtain ⟨_, hcl, hat⟩ := World.cells?_some h2
      refine ⟨a, n, cs, _, hfu, rfl, hcl, fun j hj => ?_, h3, fun m hm => hsm m (w_slice hu (List.mem_map.2 ⟨_, List.getElem_mem (by omega), rfl⟩) m hm)⟩
      rw [← Go.Deep.add_add]
      exact hat j hj
section
variable {X : Type} {V : Lies X} {Z : X → Prop} {F : Nat} (hX : ∀ (fuel : Nat) (v : Value) (x : DataW H × List MemPlace), fuel ≤ F → DataW.trod enc Tryz.prog w base spare held fuel 25 [v] = some x → Small 25 x.1 →
    ∃ (A : Option Addr) (len cap : Nat) (l : List X), v = .slice A len cap ∧ IsRow V w A len l ∧ ∀ x ∈ l, Z x)
include hX
theorem simL_open {fuel : Nat} {v : Value} {x : DataW H × List MemPlace} (hfu : fuel ≤ F) (h : DataW.trod enc Tryz.prog w base spare held fuel 68 [v] = some x) (hsm : Small 68 x.1) :
    ∃ (A : Option Addr) (len cap : Nat) (l : List (SimX X)), v = .slice A len cap ∧ len ≤ cap ∧ cap ≤ 9223372036854775807 ∧ IsSimL V w A len l ∧ ∀ s ∈ l, szS Z s := by
  obtain ⟨A, len, cap, hv, hl, hc, -, hi⟩ := row_of Tryz.underlying68 h hsm
  rw [simple_cells] at hi
  have hex : ∀ i, i < len → ∃ q : Sim × SimX X, SimRel V w q.1 q.2 ∧ szS Z q.2 ∧ ∃ a : Addr, A = some a ∧ ∀ j, j < 9 → w.cell? (a.add (i * 9 + j)) = (simC q.1).toList[j]? := fun i hil => by
    obtain ⟨a, n, cs, y, hn, ha, hcl, hat, ht, hs⟩ := hi i hil
    obtain ⟨s, n2, y2, hn2, he, hk, ho, hns, hvs, hsa, hsb, ht2, hs2, hlc, hcm⟩ := sim_cells2 hcl ht hs
    obtain ⟨A2, len2, cap2, l2, hv2, hr2, hz2⟩ := hX n2 _ y2 (by omega) ht2 hs2
    injection hv2 with e1 e2 e3
    refine ⟨(s, ⟨s.kind, s.name, s.op, s.val, s.fold, s.a, s.b, s.of, l2⟩), ⟨rfl, rfl, rfl, rfl, rfl, rfl, rfl, rfl, ?_, hlc, hcm, hk, ho, by show s.name.size ≤ _; omega, by show s.val.size ≤ _; omega, hsa, hsb, ?_⟩, ⟨hns, hvs, hz2⟩, a, ha, fun j hj => by rw [hat j hj, he]⟩
    · show s.ln = l2.length
      rw [e2, hr2.1]
    · show IsRow V w s.LA s.ln l2
      rw [e1, e2]; exact hr2
  obtain ⟨f, hf⟩ := choose_lt hex
  have hsy : ∀ j, j < len → sy ((List.range len).map fun i => (f i).2) j = (f j).2 := fun j hj => by simp [sy, hj]
  refine ⟨A, len, cap, (List.range len).map fun i => (f i).2, hv, hl, hc, ⟨by simp, (List.range len).map fun i => (f i).1, ⟨by simp, by omega, fun h0 => ?_⟩, fun j hj => ?_⟩, fun s hs => ?_⟩
  · obtain ⟨-, -, a0, ha0, hc0⟩ := hf 0 h0
    obtain ⟨b, off, hae, hbl⟩ := add_zero' (by omega) (hc0 0 (by omega))
    have hA : A = some ⟨b, off, none⟩ := by rw [ha0, hae]
    refine ⟨b, off, hA, hbl, fun j hj => ?_⟩
    have hsx : sm ((List.range len).map fun i => (f i).1) j = (f j).1 := by simp [sm, hj]
    rw [hsx]
    obtain ⟨-, -, a, ha, hcc⟩ := hf j hj
    have g := fun q (hq : q < 9) (u : Value) (hu : (simC (f j).1).toList[q]? = some u) => add_at hA ha ((hcc q hq).trans hu)
    refine ⟨g 0 (by omega) _ rfl, ?_, ?_, ?_, ?_, ?_, ?_, ?_, ?_⟩
    all_goals rw [Nat.add_assoc]
    · exact g 1 (by omega) _ rfl
    · exact g 2 (by omega) _ rfl
    · exact g 3 (by omega) _ rfl
    · exact g 4 (by omega) _ rfl
    · exact g 5 (by omega) _ rfl
    · exact g 6 (by omega) _ rfl
    · exact g 7 (by omega) _ rfl
    · exact g 8 (by omega) _ rfl
  · rw [hsy j hj, show sm ((List.range len).map fun i => (f i).1) j = (f j).1 by simp [sm, hj]]
    exact (hf j hj).1
  · obtain ⟨j, hj, rfl⟩ := List.mem_map.1 hs
    exact (hf j (List.mem_range.1 hj)).2.1
omit hX in
theorem compound_cells' : Tryz.prog.cellsOf 70 = 2 := by kernel_rfl
theorem parts_open {fuel : Nat} {v : Value} {x : DataW H × List MemPlace} (hfu : fuel ≤ F) (h : DataW.trod enc Tryz.prog w base spare held fuel 59 [v] = some x) (hsm : Small 59 x.1) :
    ∃ (A : Option Addr) (len cap : Nat) (l : List (CompX X)), v = .slice A len cap ∧ len ≤ cap ∧ cap ≤ 9223372036854775807 ∧ IsParts V w A len l ∧ ∀ s ∈ l, szC Z s := by
  obtain ⟨A, len, cap, hv, hl, hc, -, hi⟩ := row_of Tryz.underlying59 h hsm
  rw [compound_cells'] at hi
  have hk1 : Tryz.prog.cellsOf 9 = 1 := by kernel_rfl
  have hk2 : Tryz.prog.cellsOf 68 = 1 := by kernel_rfl
  have hex : ∀ i, i < len → ∃ q : CompX X × (Option Addr × Nat), (IsSimL V w q.2.1 q.1.sims.length q.1.sims ∧ q.1.sims.length ≤ q.2.2 ∧ q.2.2 ≤ 9223372036854775807 ∧ q.1.tag.size ≤ 9223372036854775807) ∧ szC Z q.1 ∧ ∃ a : Addr, A = some a ∧
      w.cell? (a.add (i * 2)) = some (.string q.1.tag) ∧ w.cell? (a.add (i * 2 + 1)) = some (.slice q.2.1 q.1.sims.length q.2.2) := fun i hil => by
    obtain ⟨a, n, cs, y, hn, ha, hcl, hat, ht, hs⟩ := hi i hil
    match cs, hcl with
    | [c0, c1], _ =>
      obtain ⟨xs, n2, hn2, hx, _, hlen, hg⟩ := DataW.trod_struct Tryz.underlying70 ht
      subst hx
      have get := field_of Tryz.underlying70 hlen hg hs
      obtain ⟨y0, t0, s0⟩ : ∃ y, DataW.trod enc Tryz.prog w base spare held n2 9 [c0] = some y ∧ Small 9 y.1 := get 0 _ [c0] rfl (by show List.take (Tryz.prog.cellsOf 9) _ = _; rw [hk1]; rfl)
      obtain ⟨y1, t1, s1⟩ : ∃ y, DataW.trod enc Tryz.prog w base spare held n2 68 [c1] = some y ∧ Small 68 y.1 := get 1 _ [c1] rfl (by show List.take (Tryz.prog.cellsOf 68) _ = _; rw [hk2]; rfl)
      obtain ⟨tg, e0, z0, -⟩ := DataW.trod_string Tryz.underlying9 t0
      subst z0
      have b0 := small_str s0
      obtain ⟨A2, len2, cap2, l2, rfl, hl2, hc2, hS, hz⟩ := simL_open hX (by omega) t1 s1
      simp at e0
      subst e0
      refine ⟨(⟨tg, l2⟩, (A2, cap2)), ⟨?_, ?_, hc2, by show tg.size ≤ _; omega⟩, ⟨b0, hz⟩, a, ha, ?_, ?_⟩
      · show IsSimL V w A2 l2.length l2
        rw [hS.1]; exact hS
      · show l2.length ≤ cap2
        rw [hS.1]; exact hl2
      · exact hat 0 (by omega)
      · show w.cell? (a.add (i * 2 + 1)) = some (.slice A2 l2.length cap2)
        rw [hS.1]; exact hat 1 (by omega)
  obtain ⟨f, hf⟩ := choose_lt hex
  have hpx : ∀ j, j < len → px ((List.range len).map fun i => (f i).1) j = (f j).1 := fun j hj => by simp [px, hj]
  refine ⟨A, len, cap, (List.range len).map fun i => (f i).1, hv, hl, hc, ⟨by simp, by omega, fun h0 => ?_⟩, fun s hs => ?_⟩
  · obtain ⟨-, -, a0, ha0, hc0, -⟩ := hf 0 h0
    obtain ⟨b, off, hae, hbl⟩ := add_zero' (by omega) hc0
    have hA : A = some ⟨b, off, none⟩ := by rw [ha0, hae]
    refine ⟨b, off, fun j => (f j).2.1, fun j => (f j).2.2, hA, hbl, fun j hj => ?_, fun j hj => ?_, fun j hj => ?_⟩
    all_goals rw [hpx j hj]
    all_goals obtain ⟨h1, -, a, ha, hc1, hc2⟩ := hf j hj
    · exact add_at hA ha hc1
    · rw [Nat.add_assoc]; exact add_at hA ha hc2
    · exact h1
  · obtain ⟨j, hj, rfl⟩ := List.mem_map.1 hs
    exact (hf j (List.mem_range.1 hj)).2.1
omit hX in
theorem complex_cells : Tryz.prog.cellsOf 62 = 3 := by kernel_rfl
instance : Inhabited (CpxX X) := ⟨⟨0, [], []⟩⟩
theorem cpx_open {fuel : Nat} {v : Value} {x : DataW H × List MemPlace} (hfu : fuel ≤ F + 1) (h : DataW.trod enc Tryz.prog w base spare held fuel 25 [v] = some x) (hsm : Small 25 x.1) :
    ∃ (A : Option Addr) (len cap : Nat) (l : List (CpxX X)), v = .slice A len cap ∧ len ≤ cap ∧ cap ≤ 9223372036854775807 ∧ IsRow (IsCpx V) w A len l ∧ ∀ s ∈ l, szP Z s := by
  obtain ⟨A, len, cap, hv, hl, hc, -, hi⟩ := row_of Tryz.underlying25 h hsm
  rw [complex_cells] at hi
  have hk1 : Tryz.prog.cellsOf 5 = 1 := by kernel_rfl
  have hk2 : Tryz.prog.cellsOf 59 = 1 := by kernel_rfl
  have hk3 : Tryz.prog.cellsOf 60 = 1 := by kernel_rfl
  have hk4 : Tryz.prog.bytesOf 5 = 1 := by kernel_rfl
  have hex : ∀ i, i < len → ∃ q : CpxX X, szP Z q ∧ ∃ (a : Addr) (ld : Int) (PA : Option Addr) (pn pc : Nat) (KA : Option Addr) (kn kc : Nat), A = some a ∧
      w.cell? (a.add (i * 3)) = some (.int .u8 ld) ∧ w.cell? (a.add (i * 3 + 1)) = some (.slice PA pn pc) ∧ w.cell? (a.add (i * 3 + 2)) = some (.slice KA kn kc) ∧ IsCpx V w ld PA pn pc KA kn kc q := fun i hil => by
    obtain ⟨a, n, cs, y, hn, ha, hcl, hat, ht, hs⟩ := hi i hil
    match cs, hcl with
    | [c0, c1, c2], _ =>
      obtain ⟨xs, n2, hn2, hx, _, hlen, hg⟩ := DataW.trod_struct Tryz.underlying62 ht
      subst hx
      have get := field_of Tryz.underlying62 hlen hg hs
      obtain ⟨y0, t0, s0⟩ : ∃ y, DataW.trod enc Tryz.prog w base spare held n2 5 [c0] = some y ∧ Small 5 y.1 := get 0 _ [c0] rfl (by show List.take (Tryz.prog.cellsOf 5) _ = _; rw [hk1]; rfl)
      obtain ⟨y1, t1, s1⟩ : ∃ y, DataW.trod enc Tryz.prog w base spare held n2 59 [c1] = some y ∧ Small 59 y.1 := get 1 _ [c1] rfl (by show List.take (Tryz.prog.cellsOf 59) _ = _; rw [hk2]; rfl)
      obtain ⟨y2, t2, s2⟩ : ∃ y, DataW.trod enc Tryz.prog w base spare held n2 60 [c2] = some y ∧ Small 60 y.1 := get 2 _ [c2] rfl (by show List.take (Tryz.prog.cellsOf 60) _ = _; rw [hk3]; rfl)
      obtain ⟨ld, e0, -, w0⟩ := DataW.trod_int Tryz.underlying5 t0
      obtain ⟨A1, len1, cap1, l1, rfl, hl1, hc1, hP, hz⟩ := parts_open hX (by omega) t1 s1
      obtain ⟨A2, len2, cap2, l2, rfl, hl2, hc2, hU⟩ := u8s_open t2
      obtain ⟨A3, len3, cap3, e3, -, -, hw3, -⟩ := row_of Tryz.underlying60 t2 s2
      injection e3 with e4 e5 e6
      rw [hk4, Nat.mul_one, ← e5] at hw3
      unfold maxLen at hc2
      simp at e0
      subst e0
      refine ⟨⟨ld, l1, l2⟩, ⟨by show l2.length ≤ _; rw [hU.1]; exact hw3, hz⟩, a, ld, A1, len1, cap1, A2, len2, cap2, ha, hat 0 (by omega), hat 1 (by omega), hat 2 (by omega), rfl, wf_u8' w0, hP.1.symm, hU.1.symm, hP, hU, ⟨hl1, hc1⟩, ⟨hl2, by omega⟩⟩
  obtain ⟨f, hf⟩ := choose_lt hex
  refine ⟨A, len, cap, (List.range len).map f, hv, hl, hc, ⟨by simp, by omega, fun h0 => ?_⟩, fun s hs => ?_⟩
  · obtain ⟨-, a0, _, _, _, _, _, _, _, ha0, hc0, -⟩ := hf 0 h0
    obtain ⟨b, off, hae, hbl⟩ := add_zero' (by omega) hc0
    have hA : A = some ⟨b, off, none⟩ := by rw [ha0, hae]
    refine ⟨b, off, hA, hbl, fun j x hx => ?_⟩
    have hj : j < len := by
      rcases Nat.lt_or_ge j len with h1 | h1
      · exact h1
      · rw [List.getElem?_eq_none (by simpa using h1)] at hx; cases hx
    obtain ⟨-, a, ld, PA, pn, pc, KA, kn, kc, ha, d0, d1, d2, hv⟩ := hf j hj
    have hx' : x = f j := by simp [hj] at hx; exact hx.symm
    rw [hx']
    refine ⟨ld, PA, pn, pc, KA, kn, kc, add_at hA ha d0, ?_, ?_, hv⟩
    · rw [Nat.add_assoc]; exact add_at hA ha d1
    · rw [Nat.add_assoc]; exact add_at hA ha d2
  · obtain ⟨j, hj, rfl⟩ := List.mem_map.1 hs
    exact (hf j (List.mem_range.1 hj)).1
end
theorem rowV_open : ∀ (N fuel : Nat) (v : Value) (x : DataW H × List MemPlace), fuel ≤ N → DataW.trod enc Tryz.prog w base spare held fuel 25 [v] = some x → Small 25 x.1 →
    ∃ (A : Option Addr) (len cap : Nat) (l : List (SelL N)), v = .slice A len cap ∧ IsRow (IsV N) w A len l ∧ ∀ x ∈ l, szV N x
  | 0 => fun fuel v x hfu h _ => by
    obtain rfl : fuel = 0 := by omega
    simp [DataW.trod] at h
  | N + 1 => fun fuel v x hfu h hs => by
    obtain ⟨A, len, cap, l, hv, -, -, hr, hz⟩ := cpx_open (V := IsV N) (Z := szV N) (F := N) (rowV_open N) hfu h hs
    exact ⟨A, len, cap, l, hv, hr, hz⟩
set_option maxRecDepth 100000 in
theorem sels_open {r : Reach} {b0 : Nat} {v : Value} {d : DataW H} {p : List MemPlace} (hv : Value.okWide Tryz.prog w r b0 25 v) (h : DataW.Trod enc Tryz.prog w base spare held 25 v d p) (hw : ∀ n ∈ d.weights Tryz.prog 25, n ≤ reachBytes) :
    ∃ (A : Option Addr) (len cap N : Nat) (l : List (SelL (N + 1))), v = .slice A len cap ∧ len ≤ cap ∧ cap ≤ 9223372036854775807 ∧ IsRow (IsV (N + 1)) w A len l ∧ ∀ x ∈ l, szV (N + 1) x := by
  obtain ⟨A, len, cap, rfl⟩ := okWide_slice Tryz.underlying25 hv
  obtain ⟨fuel, hf⟩ := h
  obtain ⟨A', len', cap', l, e, h1, h2, hr, hz⟩ := cpx_open (V := IsV fuel) (Z := szV fuel) (F := fuel) (rowV_open fuel) (Nat.le_succ _) hf hw
  exact ⟨A', len', cap', fuel, l, e, h1, h2, hr, hz⟩
end
end Go.Proofs.YtljloicgjgbplaaGreat
/- Walks: what texts are names, by the program and by the reference. Conditions as each states. -/
namespace Go.Proofs.YtljloicgjgbplaaGreat
open Go.RowKit

theorem str_beq (a b : ByteArray) : (a.toList == b.toList) = decide (a = b) := by
  rw [Bool.eq_iff_iff, beq_iff_eq, decide_eq_true_eq]
  exact ⟨fun h => by rw [ByteArray.toList_eq, ByteArray.toList_eq] at h; exact Go.WideShapes.bytes_inj h, fun h => by rw [h]⟩
theorem zeroB_idx (s : ByteArray) (m : Nat) : (!zeroB s m) = (decide (m < s.size) || decide (0 ≤ Lib.indexByte s.data.toList 0)) := by
  unfold zeroB
  rw [Lib.contains_iff_indexByte, Bool.not_and, Bool.not_not]
  congr 1
  by_cases h : s.size ≤ m
  · rw [decide_eq_true h, decide_eq_false (by omega)]; rfl
  · rw [decide_eq_false h, decide_eq_true (by omega)]; rfl
theorem zeroT_ok (s : ByteArray) (m : Nat) (w : World) : Calls Tryz.prog 112 #[.string s, .int .i64 (m : Int)] w fun e w' => e = .returned (.bool (!zeroB s m)) ∧ w' = w := by
  rw [zeroB_idx]
  go_enter Tryz.func112, Tryz.ntmps112
  go_wp2_with (go_at_call 146; refine (Tryz.strings_IndexByte _ _ _).mono ?_; rintro e w' ⟨rfl, rfl⟩)
  all_goals go_ret
  · exact ⟨rfl, rfl⟩
  · rename_i h
    rw [decide_eq_true (show m < s.size by omega)]
    exact ⟨rfl, rfl⟩
theorem namedT_ok (s : ByteArray) (w : World) : Calls Tryz.prog 107 #[.string s] w fun e w' => e = .returned (.bool (nmB s)) ∧ w' = w := by
  have hz := fun W => zeroT_ok s 64 W
  by_cases h : s.size = 0
  · have hr : nmB s = false := by unfold nmB; rw [decide_eq_false (by simp [h])]; rfl
    rw [hr]
    have h1 := (toList_nil s).2 h
    clear h
    go_enter Tryz.func107, Tryz.ntmps107
    go_wp2
    go_ret
    exact ⟨rfl, rfl⟩
  · have hr : nmB s = zeroB s 64 := by unfold nmB; rw [decide_eq_true (show s.size ≠ 0 from h)]; rfl
    rw [hr]
    have h1 : ¬ s.toList = [] := fun e => h ((toList_nil s).1 e)
    clear h
    go_enter Tryz.func107, Tryz.ntmps107
    go_wp2_with (go_at_call 112; refine (hz _).mono ?_; rintro e w' ⟨rfl, rfl⟩)
    go_ret
    have h2 : s.toList.isEmpty = false := by simpa using h1
    exact ⟨ret_bool (by rw [h2]; rfl), rfl⟩
theorem or32_all : ∀ n : Nat, n < 91 → 65 ≤ n → bits .or .u8 (n : Int) 32 = n + 32 := by decide +kernel
theorem or32 (n : Nat) (h1 : 65 ≤ n) (h2 : n ≤ 90) : bits .or .u8 (n : Int) 32 = n + 32 := or32_all n (by omega) h1
set_option maxRecDepth 100000 in
set_option maxHeartbeats 1000000 in
theorem lower_ok (s : ByteArray) (w : World) (hs : s.size ≤ 1000) : Calls Tryz.prog 108 #[.string s] w fun e w' => e = .returned (.string (foldS s)) ∧ Below w.heap.size w w' := by
  have hcv := run_bytes_of_string (P := Tryz.prog) w 9 60 5 s Tryz.underlying9 Tryz.underlying60 Tryz.underlying5
  have hge := grownCap_ge w s.size 0 5
  have hcm := grownCap_le_maxLen w s.size 0 5 (by unfold maxLen; omega)
  generalize grownCap w s.size 0 5 = cap at hcv hge hcm
  have hbs : (bytesRow s cap).size = cap := by
    have h1 : s.data.size = s.size := rfl
    simp [bytesRow, h1]; omega
  rw [hbs] at hcv
  have hH0 : Half (w.drew.alloc (.cells (bytesRow s cap) 5 (cap, cap + 1))) w.heap.size s 0 := by
    refine ⟨bytesRow s cap, cap, heap_alloc_new w.drew _, hge, hbs, fun j hj => ?_⟩
    rw [if_neg (by omega)]
    exact bytesRow_at s cap j hj
  have hB0 : Below w.heap.size w (w.drew.alloc (.cells (bytesRow s cap) 5 (cap, cap + 1))) := below_alloc (Below.refl _ _).drew _
  have hcm' : cap ≤ 9223372036854775807 := by unfold maxLen at hcm; omega
  go_enter Tryz.func108, Tryz.ntmps108
  go_wp2
  clear hcv
  go_loopw [10] (fun i wr => ∃ k : Nat, k ≤ s.size ∧ i = .int .i64 k ∧ Half wr w.heap.size s k ∧ Below w.heap.size w wr) (fun i _ => s.size - (intOf i).toNat)
  case atStart => exact ⟨0, Nat.zero_le _, rfl, hH0, hB0⟩
  case round =>
    obtain ⟨k, hk, rfl, hH, hb⟩ := hrel
    have hH' := hide hH
    by_cases hlt : k < s.size
    · have gk := hH.cell hlt (Nat.le_refl _)
      have gf := hH.free hlt
      have hgl : w.heap.size < wr.heap.size := by obtain ⟨cs, N, h1, _⟩ := hH; exact lt_of_block h1
      clear hH hH0 hB0
      by_cases h1 : 65 ≤ ((s[k]'hlt).toNat : Int)
      · by_cases h2 : ((s[k]'hlt).toNat : Int) ≤ 90
        · have hx := hide (fold8_big (c := s[k]'hlt) (by omega) (by omega))
          go_wp2
          go_roundw
          case rel =>
            rw [or32 _ (by omega) (by omega)]
            exact ⟨k + 1, by omega, by go_num, hH'.out.store hlt hx.out.symm, hb.setCell (Nat.le_refl _) _⟩
          case measure => simp [intOf]; omega
        · have hx := hide (fold8_small (c := s[k]'hlt) (by omega))
          go_wp2
          go_roundw
          case rel => exact ⟨k + 1, by omega, by go_num, hH'.out.same hlt hx.out, hb⟩
          case measure => simp [intOf]; omega
      · have hx := hide (fold8_small (c := s[k]'hlt) (by omega))
        go_wp2
        go_roundw
        case rel => exact ⟨k + 1, by omega, by go_num, hH'.out.same hlt hx.out, hb⟩
        case measure => simp [intOf]; omega
    · obtain rfl : s.size = k := by omega
      have hlen : (s.data.toList.map fold8).length = s.size := by simp
      have hcv := run_convert_bytes_back (P := Tryz.prog) wr 60 9 5 ⟨w.heap.size, 0, none⟩ cap (s.data.toList.map fold8) Tryz.underlying60 Tryz.underlying5 Tryz.underlying9 (fun j hj => by
        have hj' : j < s.size := by omega
        obtain ⟨cs, N, g1, g2, g3, g4⟩ := hH
        have := g4 j hj'
        rw [if_pos hj'] at this
        rw [show (⟨w.heap.size, 0, none⟩ : Addr).add j = ⟨w.heap.size, j, none⟩ by unfold Addr.add; split <;> simp_all, cell_of_row wr w.heap.size j cs 5 (N, N + 1) g1, this]
        simp; rfl)
      rw [hlen] at hcv
      clear hH hlen hH0 hB0
      go_wp2
      go_ret
      exact ⟨rfl, hb⟩
theorem rsmall8_ok (c : UInt8) (w : World) : Calls Tryz.prog 161 #[.int .u8 (c.toNat : Int)] w fun e w' => e = .returned (.int .u8 ((fold8 c).toNat : Int)) ∧ w' = w := by
  have hlt := c.toNat_lt
  by_cases h1 : 65 ≤ c.toNat
  · by_cases h2 : c.toNat ≤ 90
    · have hx := fold8_big h1 h2
      rw [hx]
      clear hx
      go_enter Tryz.func161, Tryz.ntmps161
      go_wp2
      go_ret
      exact ⟨ret_int (by omega), rfl⟩
    · rw [fold8_small (by omega)]
      go_enter Tryz.func161, Tryz.ntmps161
      go_wp2
      go_ret
      exact ⟨rfl, rfl⟩
  · rw [fold8_small (by omega)]
    go_enter Tryz.func161, Tryz.ntmps161
    go_wp2
    go_ret
    exact ⟨rfl, rfl⟩
set_option maxRecDepth 100000 in
set_option maxHeartbeats 1000000 in
theorem rlower_ok (s : ByteArray) (w : World) (hs : s.size ≤ 1000) : Calls Tryz.prog 142 #[.string s] w fun e w' => e = .returned (.string (foldS s)) ∧ Below w.heap.size w w' := by
  have hcv := run_bytes_of_string (P := Tryz.prog) w 9 60 5 s Tryz.underlying9 Tryz.underlying60 Tryz.underlying5
  have hge := grownCap_ge w s.size 0 5
  have hcm := grownCap_le_maxLen w s.size 0 5 (by unfold maxLen; omega)
  generalize grownCap w s.size 0 5 = cap at hcv hge hcm
  have hbs : (bytesRow s cap).size = cap := by
    have h1 : s.data.size = s.size := rfl
    simp [bytesRow, h1]; omega
  rw [hbs] at hcv
  have hH0 : Half (w.drew.alloc (.cells (bytesRow s cap) 5 (cap, cap + 1))) w.heap.size s 0 := by
    refine ⟨bytesRow s cap, cap, heap_alloc_new w.drew _, hge, hbs, fun j hj => ?_⟩
    rw [if_neg (by omega)]
    exact bytesRow_at s cap j hj
  have hB0 : Below w.heap.size w (w.drew.alloc (.cells (bytesRow s cap) 5 (cap, cap + 1))) := below_alloc (Below.refl _ _).drew _
  have hcm' : cap ≤ 9223372036854775807 := by unfold maxLen at hcm; omega
  go_enter Tryz.func142, Tryz.ntmps142
  go_wp2
  clear hcv
  go_loopw [4] (fun i wr => ∃ k : Nat, k ≤ s.size ∧ i = .int .i64 k ∧ Half wr w.heap.size s k ∧ Below w.heap.size w wr) (fun i _ => s.size - (intOf i).toNat)
  case atStart => exact ⟨0, Nat.zero_le _, rfl, hH0, hB0⟩
  case round =>
    obtain ⟨k, hk, rfl, hH, hb⟩ := hrel
    have hH' := hide hH
    by_cases hlt : k < s.size
    · have gk := hH.cell hlt (Nat.le_refl _)
      have gf := hH.free hlt
      have hgl : w.heap.size < wr.heap.size := by obtain ⟨cs, N, h1, _⟩ := hH; exact lt_of_block h1
      clear hH hH0 hB0
      go_wp2_with (go_at_call 161; refine (rsmall8_ok _ _).mono ?_; rintro e w' ⟨rfl, rfl⟩)
      go_roundw
      case rel => exact ⟨k + 1, by omega, by go_num, hH'.out.store hlt rfl, hb.setCell (Nat.le_refl _) _⟩
      case measure => simp [intOf]; omega
    · obtain rfl : s.size = k := by omega
      have hlen : (s.data.toList.map fold8).length = s.size := by simp
      have hcv := run_convert_bytes_back (P := Tryz.prog) wr 60 9 5 ⟨w.heap.size, 0, none⟩ cap (s.data.toList.map fold8) Tryz.underlying60 Tryz.underlying5 Tryz.underlying9 (fun j hj => by
        have hj' : j < s.size := by omega
        obtain ⟨cs, N, g1, g2, g3, g4⟩ := hH
        have := g4 j hj'
        rw [if_pos hj'] at this
        rw [show (⟨w.heap.size, 0, none⟩ : Addr).add j = ⟨w.heap.size, j, none⟩ by unfold Addr.add; split <;> simp_all, cell_of_row wr w.heap.size j cs 5 (N, N + 1) g1, this]
        simp; rfl)
      rw [hlen] at hcv
      clear hH hlen hH0 hB0
      go_wp2
      go_ret
      exact ⟨rfl, hb⟩
theorem zeroB_small {s : ByteArray} {m : Nat} (h : zeroB s m = true) : s.size ≤ m := by
  unfold zeroB at h
  simp only [Bool.and_eq_true, decide_eq_true_eq] at h
  exact h.1
theorem nmB_small {s : ByteArray} (h : nmB s = true) : s.size ≤ 64 := by
  unfold nmB at h
  simp only [Bool.and_eq_true, decide_eq_true_eq] at h
  exact zeroB_small h.2
theorem smallT_ok (s : ByteArray) (w : World) : Calls Tryz.prog 78 #[.string s] w fun e w' => e = .returned (.bool (smB s)) ∧ Below w.heap.size w w' := by
  cases h : nmB s
  · have hr : smB s = false := by unfold smB; rw [h]; rfl
    rw [hr]
    go_enter Tryz.func78, Tryz.ntmps78
    go_wp2_with (go_at_call 107; refine (namedT_ok _ _).mono ?_; rintro e w' ⟨rfl, rfl⟩)
    go_ret
    exact ⟨rfl, Below.refl _ _⟩
  · have hr : smB s = decide (foldS s = s) := by unfold smB; rw [h]; rfl
    have hsz := nmB_small h
    rw [hr]
    go_enter Tryz.func78, Tryz.ntmps78
    go_wp2_with (first | (go_at_call 107; refine (namedT_ok _ _).mono ?_; rintro e w' ⟨rfl, rfl⟩) | (go_at_call 108; refine (lower_ok _ _ (by omega)).mono ?_; rintro e w2 ⟨rfl, hb2⟩))
    go_ret
    exact ⟨ret_bool (str_beq _ _), hb2⟩
theorem rbytes_ok (s : ByteArray) (m : Nat) (w : World) (hs : s.size ≤ 9223372036854775807) : Calls Tryz.prog 143 #[.string s, .int .i64 (m : Int)] w fun e w' => e = .returned (.bool (zeroB s m)) ∧ w = w' := by
  go_enter Tryz.func143, Tryz.ntmps143
  go_wp2
  go_loopw [5] (fun i wr => ∃ k : Nat, k ≤ s.size ∧ i = .int .i64 k ∧ (0 : UInt8) ∉ s.data.toList.take k ∧ w = wr) (fun i _ => s.size - (intOf i).toNat)
  case atStart => exact ⟨0, Nat.zero_le _, rfl, by simp, rfl⟩
  case round =>
    obtain ⟨k, hk, rfl, hn, rfl⟩ := hrel
    by_cases hlt : k < s.size
    · go_wp2
      · rename_i h0
        go_ret
        have hz : s[k]'hlt = 0 := by
          have : (s[k]'hlt).toNat = 0 := by simp at h0; simpa using h0
          exact UInt8.toNat_inj.1 this
        have hm : s.data.toList.contains 0 = true := by
          rw [List.contains_iff_mem, ← hz]
          exact List.mem_of_getElem? (i := k) (by rw [List.getElem?_eq_getElem (by simpa using hlt)]; rfl)
        exact ⟨ret_bool (by unfold zeroB; rw [hm]; simp), rfl⟩
      · rename_i h0
        refine ⟨⟨k + 1, by omega, by go_num, ?_, trivial⟩, by simp [intOf]; omega⟩
        rw [List.take_succ_eq_append_getElem (by simpa using hlt)]
        intro hmem
        rcases List.mem_append.1 hmem with h1 | h1
        · exact hn h1
        · simp at h1
          have : (s[k]'hlt).toNat = 0 := by
            have e : s.data[k]'(by simpa using hlt) = s[k]'hlt := rfl
            rw [← e, ← h1]; rfl
          rw [this] at h0
          simp at h0
    · obtain rfl : s.size = k := by omega
      go_wp2
      go_ret
      have hm : s.data.toList.contains 0 = false := by
        rw [Bool.eq_false_iff, ne_eq, List.contains_iff_mem]
        have e : s.data.toList.take s.size = s.data.toList := List.take_of_length_le (by simp)
        rwa [e] at hn
      exact ⟨ret_bool (by unfold zeroB; rw [hm]; simp), rfl⟩
theorem rnamed8_ok (s : ByteArray) (w : World) (hs : s.size ≤ 9223372036854775807) : Calls Tryz.prog 141 #[.string s] w fun e w' => e = .returned (.bool (nmB s)) ∧ w = w' := by
  have hz := fun W => rbytes_ok s 64 W hs
  by_cases h : s.size = 0
  · have hr : nmB s = false := by unfold nmB; rw [decide_eq_false (by simp [h])]; rfl
    rw [hr]
    have h1 := (toList_nil s).2 h
    clear h
    go_enter Tryz.func141, Tryz.ntmps141
    go_wp2
    go_ret
    exact ⟨rfl, rfl⟩
  · have hr : nmB s = zeroB s 64 := by unfold nmB; rw [decide_eq_true (show s.size ≠ 0 from h)]; rfl
    rw [hr]
    have h1 : ¬ s.toList = [] := fun e => h ((toList_nil s).1 e)
    clear h
    go_enter Tryz.func141, Tryz.ntmps141
    go_wp2_with (go_at_call 143; refine (hz _).mono ?_; rintro e w' ⟨rfl, rfl⟩)
    go_ret
    have h2 : s.toList.isEmpty = false := by simpa using h1
    exact ⟨ret_bool (by rw [h2]; rfl), rfl⟩
theorem rsmallT_ok (s : ByteArray) (w : World) (hs : s.size ≤ 9223372036854775807) : Calls Tryz.prog 105 #[.string s] w fun e w' => e = .returned (.bool (smB s)) ∧ Below w.heap.size w w' := by
  cases h : nmB s
  · have hr : smB s = false := by unfold smB; rw [h]; rfl
    rw [hr]
    go_enter Tryz.func105, Tryz.ntmps105
    go_wp2_with (go_at_call 141; refine (rnamed8_ok _ _ hs).mono ?_; rintro e w' ⟨rfl, rfl⟩)
    go_ret
    exact ⟨rfl, Below.refl _ _⟩
  · have hr : smB s = decide (foldS s = s) := by unfold smB; rw [h]; rfl
    have hsz := nmB_small h
    rw [hr]
    go_enter Tryz.func105, Tryz.ntmps105
    go_wp2_with (first | (go_at_call 141; refine (rnamed8_ok _ _ hs).mono ?_; rintro e w' ⟨rfl, rfl⟩) | (go_at_call 142; refine (rlower_ok _ _ (by omega)).mono ?_; rintro e w2 ⟨rfl, hb2⟩))
    go_ret
    exact ⟨ret_bool (by rw [str_beq]; exact decide_eq_decide.2 ⟨fun h => h.symm, fun h => h.symm⟩), hb2⟩
end Go.Proofs.YtljloicgjgbplaaGreat
