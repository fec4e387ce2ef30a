/- Plain: what chapter 23's example matches. No condition. -/
import Derived.Test.YtljloicgjgbplaaGreatG42
import Derived.SizedLaws
namespace Go.Proofs.YtljloicgjgbplaaGreat
open Go.RowKit

def simK {X : Type} (k : Int) (l : List X) : SimX X := ⟨k, ⟨#[]⟩, 0, ⟨#[]⟩, false, 0, 0, false, l⟩
def oL (N : Nat) (tag : ByteArray) (l : List (SimX (SelL N))) : List (SelL (N + 1)) := oneL tag l
def wL (N : Nat) (ld : Int) (l : List (SelL (N + 1))) : List (SelL (N + 1)) := List.map (leadX (X := SelL N) ld) l
def la1 : List (SelL 1) := oL 0 ⟨#[97]⟩ [simK 5 []]
def la : List (SelL 2) := oL 1 ⟨#[108, 105]⟩ [simK 14 (wL 0 1 la1)]
def lb1 : List (SelL 1) := oL 0 ⟨#[]⟩ [simK 5 []]
def lb : List (SelL 2) := oL 1 ⟨#[]⟩ [simK 13 (wL 0 0 lb1)]
def l1 : List (SelL 1) := oL 0 ⟨#[42]⟩ []
def l2 : List (SelL 2) := oL 1 ⟨#[]⟩ [simK 14 (wL 0 1 l1)]
def l3 : List (SelL 3) := oL 2 ⟨#[]⟩ [simK 13 (wL 1 0 l2)]
def s3 : SimX (SelL 3) := ⟨9, ⟨#[]⟩, 0, ⟨#[]⟩, false, 0, 1, true, l3⟩
def lc : List (SelL 4) := oL 3 ⟨#[108, 105]⟩ [s3]
theorem val_a3 : mallV exT23 3 2 la = [false, true, false, false] ∧ aksE exT23 3 2 la = 0 := by constructor <;> kernel_rfl
theorem val_a1 : mallV exT23 (-1) 2 la = [false, false, false, false] ∧ aksE exT23 (-1) 2 la = 0 := by constructor <;> kernel_rfl
theorem val_b : mmatV exT23 3 (-1) 2 lb = true ∧ mmatE exT23 3 (-1) 2 lb = 0 := by constructor <;> kernel_rfl
theorem val_c : mallV exT23 (-1) 4 lc = [false, false, true, false] ∧ aksE exT23 (-1) 4 lc = 0 := by constructor <;> kernel_rfl
theorem num_abc : numV 2 la ≤ 1000000 ∧ numV 2 lb ≤ 1000000 ∧ numV 4 lc ≤ 1000000 := by decide +kernel
end Go.Proofs.YtljloicgjgbplaaGreat
/- Plain: what a list of one selector of one compound matches, and whether it is right. No condition. -/
namespace Go.Proofs.YtljloicgjgbplaaGreat
open Go.RowKit

theorem e0 : ({ data := #[] } : ByteArray) = ByteArray.empty := rfl
theorem in_oL (T : List ANode) (m : Int) (M : Nat) (tag : ByteArray) (ss : List (SimX (SelL M))) {i : Nat} (hi : i < T.length) :
    inV T m (M + 1) (oL M tag ss) i = (tagF T i tag && ss.all fun s => simM T m (ldV M) (csV M) (rwV T m M) s i) := by
  have h1 : inV T m (M + 1) (oL M tag ss) i = bx (rowOf T (compM T m (ldV M) (csV M) (rwV T m M) ⟨tag, ss⟩)) i := by
    show (isI T (csV (M + 1)) (rwV T m (M + 1)) (⟨0, [⟨tag, ss⟩], []⟩ : CpxX (SelL M)) i || false) = _
    rw [Bool.or_false]
    rfl
  rw [h1, rowOf_bx T _ hi]
  rfl
theorem chk_oL {M : Nat} {tag : ByteArray} {ss : List (SimX (SelL M))} : chkV (M + 1) (oL M tag ss) = 0 ↔ compB (wholeV M) 0 false ⟨tag, ss⟩ = true ∧ 1 + (ss.map fun s => numV M s.list).sum ≤ 64 := by
  rw [chkV_zero]
  have h1 : fineV (M + 1) (oL M tag ss) = compB (wholeV M) 0 false ⟨tag, ss⟩ := by
    unfold fineV oL oneL
    show (decide (0 < 1) && ([_] : List (CpxX (SelL M))).all (wholeB (wholeV M) 0 false false)) = _
    simp [wholeB]
  have h2 : numV (M + 1) (oL M tag ss) = 1 + (ss.map fun s => numV M s.list).sum := by
    show numL (numV M) (oL M tag ss) = _
    unfold numL oL oneL numParts numSims
    simp
  rw [h1, h2]
theorem simB_is (M : Nat) (l : List (SelL M)) : simB (wholeV M) 0 false (simK 11 l) = l.all (wholeV M 1 false false) := by simp [simB, simK, listB, plB, e0]
theorem simB_where (M : Nat) (l : List (SelL M)) : simB (wholeV M) 0 false (simK 12 l) = l.all (wholeV M 1 false false) := by simp [simB, simK, listB, plB, e0]
theorem simB_not (M : Nat) (l : List (SelL M)) : simB (wholeV M) 0 false (simK 13 l) = (decide (0 < l.length) && l.all (wholeV M 1 false false)) := by
  simp [simB, simK, listB, plB, e0]
  rfl
theorem chk_is {M : Nat} {l : List (SelL M)} : chkV (M + 1) (oL M ⟨#[]⟩ [simK 11 l]) = 0 ↔ l.all (wholeV M 1 false false) = true ∧ 1 + numV M l ≤ 64 := by
  rw [chk_oL, compB_iff]
  simp only [List.map_cons, List.map_nil, List.sum_cons, List.sum_nil, List.mem_singleton, forall_eq, simB_is]
  constructor
  · rintro ⟨⟨-, -, -, h⟩, h2⟩; exact ⟨h, by simpa [simK] using h2⟩
  · rintro ⟨h, h2⟩; exact ⟨⟨by decide, by simp, by simp, h⟩, by simpa [simK] using h2⟩
theorem chk_where {M : Nat} {l : List (SelL M)} : chkV (M + 1) (oL M ⟨#[42]⟩ [simK 12 l]) = 0 ↔ l.all (wholeV M 1 false false) = true ∧ 1 + numV M l ≤ 64 := by
  rw [chk_oL, compB_iff]
  simp only [List.map_cons, List.map_nil, List.sum_cons, List.sum_nil, List.mem_singleton, forall_eq, simB_where]
  constructor
  · rintro ⟨⟨-, -, -, h⟩, h2⟩; exact ⟨h, by simpa [simK] using h2⟩
  · rintro ⟨h, h2⟩; exact ⟨⟨by decide, by simp, by simp, h⟩, by simpa [simK] using h2⟩
theorem chk_not {M : Nat} {l : List (SelL M)} : chkV (M + 1) (oL M ⟨#[]⟩ [simK 13 l]) = 0 ↔ (0 < l.length ∧ l.all (wholeV M 1 false false) = true) ∧ 1 + numV M l ≤ 64 := by
  rw [chk_oL, compB_iff]
  simp only [List.map_cons, List.map_nil, List.sum_cons, List.sum_nil, List.mem_singleton, forall_eq, simB_not, Bool.and_eq_true, decide_eq_true_eq]
  constructor
  · rintro ⟨⟨-, -, -, h⟩, h2⟩; exact ⟨h, by simpa [simK] using h2⟩
  · rintro ⟨h, h2⟩; exact ⟨⟨by decide, by simp, by simp, h⟩, by simpa [simK] using h2⟩
theorem num_oK {M : Nat} {k : Int} {tag : ByteArray} {l : List (SelL M)} : numV (M + 1) (oL M tag [simK k l]) = 1 + numV M l := by
  show numL (numV M) (oL M tag [simK k l]) = _
  unfold numL oL oneL numParts numSims simK
  simp
section
variable (T : List ANode) (m : Int) (M : Nat) (l : List (SelL M)) {i : Nat} (hi : i < T.length)
include hi
theorem in_is : inV T m (M + 1) (oL M ⟨#[]⟩ [simK 11 l]) i = inV T m M l i := by
  rw [in_oL _ _ _ _ _ hi]
  simp [tagF, simM, simK, inV, e0]
theorem in_where : inV T m (M + 1) (oL M ⟨#[42]⟩ [simK 12 l]) i = inV T m M l i := by
  rw [in_oL _ _ _ _ _ hi]
  simp [tagF, simM, simK, inV, e0]
theorem in_not : inV T m (M + 1) (oL M ⟨#[]⟩ [simK 13 l]) i = !inV T m M l i := by
  rw [in_oL _ _ _ _ _ hi]
  simp [tagF, simM, simK, inV, e0]
end
theorem mall_row {T : List ANode} {m : Int} {N : Nat} {l : List (SelL N)} (h : aksE T m N l = 0) : mallV T m N l = rowOf T (inV T m N l) := by unfold mallV; rw [if_pos h]
theorem chkV_pos {N : Nat} {l : List (SelL N)} (h : chkV N l = 0) : 0 < l.length := by
  have := (chkV_zero.1 h).1
  unfold fineV at this
  simp only [Bool.and_eq_true, decide_eq_true_eq] at this
  exact this.1
/-- Which elements match, one by one, without an error. -/
def MadeRB (w : World) (n : Nat) (F : Nat → Bool) (e : Ending) (w' : World) : Prop :=
  ∃ (A : Option Addr) (c : Nat), e = .returned (.tuple #[.slice A n c, .int .i64 0]) ∧ IsBools w' A n ((List.range n).map F) ∧ Below w.heap.size w w'
theorem mAllF (T : List ANode) (m : Int) (N : Nat) (l : List (SelL N)) (F : Nat → Bool) (h0 : aksE T m N l = 0) (hF : ∀ i, i < T.length → inV T m N l i = F i) (hnum : numV N l ≤ 1000000) (A : Option Addr) (n c : Nat) (LA : Option Addr) (ln lc : Nat) (w : World) (hT : IsTree w A n T) (hmx : HasMax w) (hrow : IsRow (IsV N) w LA ln l) :
    Calls Tryz.prog 13 #[.agg #[.slice A n c], .slice LA ln lc, .int .i64 m] w (MadeRB w n F) := by
  have hx := mAll_ok A n c T N LA ln lc l m w hT hmx hrow hnum
  have hr : mallV T m N l = (List.range n).map F := by
    rw [mall_row h0, rowOf_ext T hF]
    unfold rowOf
    rw [hT.1]
  rw [h0, hr] at hx
  refine hx.mono ?_
  rintro e w' ⟨A', c', rfl, hI, -, -, hb⟩
  have hl : ((List.range n).map F).length = n := by simp
  rw [hl] at hI ⊢
  exact ⟨A', c', rfl, hI, hb⟩
theorem num64 {T : List ANode} {m : Int} {N : Nat} {l : List (SelL N)} (h : aksE T m N l = 0) : numV N l ≤ 1000000 := by
  have := (chkV_zero.1 (aksE_zero.1 h).2.2).2
  omega
theorem aks_of {T : List ANode} {m : Int} {N M : Nat} {l : List (SelL N)} {l' : List (SelL M)} (h : aksE T m N l = 0) (h' : chkV M l' = 0) : aksE T m M l' = 0 := by
  obtain ⟨h1, h2, -⟩ := aksE_zero.1 h
  exact aksE_zero.2 ⟨h1, h2, h'⟩
open Go.ChangeShapes Go.WideShapes Go.ChangeAt Go.RowKit Go.Deep in
theorem weight_le {H : Type} {P : Program} {ts : List TypeId} {ds : List (DataW H)} (h : (DataW.weightsEach P ts ds).all (· ≤ reachBytes) = true) {j : Nat} {t : TypeId} {d : DataW H} (ht : ts[j]? = some t) (hd : ds[j]? = some d) : ∀ n ∈ d.weights P t, n ≤ reachBytes := fun n hn => by
  simpa using List.all_eq_true.1 h _ (DataW.weights_mem_each ht hd n hn)
end Go.Proofs.YtljloicgjgbplaaGreat
