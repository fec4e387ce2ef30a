/- A list of lists of truth values that the call has made, no two of them in one block; one element changed; a list of bytes that the call has made. Condition: not great. -/
import Derived.Test.YtaliekkdamghbaaDd
import Derived.Test.YtaliekkdamghbaaLt
import Derived.Test.YtaliekkdamghbaaPcm
namespace Go.Proofs.Ytaliekkdamghbaa
open Go.RowKit

def OwnBBd (w : World) (base : Nat) (v : Value) (k : Nat) (R : List (List Bool)) : Prop :=
  ∃ (aA : Nat → Option Addr) (aC : Nat → Nat), w.ownsRow base 31 1 v k (slicesR R aA aC k) ∧ (∀ j, j < k → w.ownsRow base 4 1 (.slice (aA j) (rowB R j).length (aC j)) (rowB R j).length (bools (rowB R j))) ∧
    ∀ j j', j < k → j' < k → j ≠ j' → Apart (.slice (aA j) (rowB R j).length (aC j)) (.slice (aA j') (rowB R j').length (aC j'))
theorem OwnBBd.plain {w : World} {base k : Nat} {v : Value} {R : List (List Bool)} (h : OwnBBd w base v k R) : OwnBB w base v k R := by
  obtain ⟨aA, aC, h1, h2, -⟩ := h
  exact ⟨aA, aC, h1, h2⟩
theorem ownBBd_nil (w : World) (base : Nat) (H : List (List Bool)) : OwnBBd w base (.slice none 0 0) 0 H :=
  ⟨fun _ => none, fun _ => 0, World.ownsRow_nil _ _ _ _, fun _ h => absurd h (by omega), fun _ _ h => absurd h (by omega)⟩
theorem OwnBBd.below {w w' : World} {base k : Nat} {v : Value} {R : List (List Bool)} (h : OwnBBd w base v k R) (hb : Below w.heap.size w w') : OwnBBd w' base v k R := by
  obtain ⟨aA, aC, h1, h2, h3⟩ := h
  exact ⟨aA, aC, own_below h1 hb, fun j hj => own_below (h2 j hj) hb, h3⟩

section
variable {W : World} {ops : Array Oper} {rest : List Oper} {o : Oper} {a : Act} {Q : Exit → Act → World → Prop}
set_option maxRecDepth 100000 in
theorem wpList_pushBBd (hgd : o.guard = none) (s x : Operand) (ho : o.op = .call { callee := .builtin .append, args := #[s, x], argTypes := #[26, 26] })
    {base k : Nat} {v : Value} {R : List (List Bool)} {u : World} (hown0 : OwnBBd u base v k R) (hub : Below u.heap.size u W) (A : Option Addr) (n c : Nat) (hn : n = (rowB R k).length) (hrow0 : W.ownsRow u.heap.size 4 1 (.slice A n c) n (bools (rowB R k))) (tt : TypeId) (hs : a.eval s = v) (hx : a.eval x = .slice (some ⟨W.heap.size, 0, none⟩) 1 1)
    (hk : k ≤ 1000000) (hbase : base ≤ u.heap.size)
    (h : ∀ A' c' w', OwnBBd w' base (.slice A' (k + 1) c') (k + 1) R → Grew W w' base v (.slice A' (k + 1) c') → wpList Try.prog ops Q rest (a.put o.dst (.slice A' (k + 1) c')) w') :
    wpList Try.prog ops Q (o :: rest) a (W.alloc (.cells #[.slice A n c] tt)) := by
  have hbase' : base ≤ W.heap.size := Nat.le_trans hbase hub.size
  have hrow := own_base hrow0 hbase
  obtain ⟨i0, hI, hz0, hz1, hz2⟩ := info_parts info_bb
  obtain ⟨aA, aC, p1, p2, p3⟩ := hown0
  have q1 := own_below p1 hub
  have q2 := fun j hj => own_below (p2 j hj) hub
  have hnew : ∀ j, j < k → Apart (.slice (aA j) (rowB R j).length (aC j)) (.slice A n c) := fun j hj q hq hq' => by
    have h1 := (World.ownsRow.lt (p2 j hj) q hq).2
    have h2 := (World.ownsRow.lt hrow0 q hq').1
    omega
  refine wpList_append_mine hgd s x 26 ho 31 i0 (.slice none 0 0) 1 24 Try.underlying26 hI hz0 hz1 hz2 rfl (by decide) (World.ownsRow.alloc q1 _) hs ⟨W.heap.size, 0, none⟩ 1 1 [.slice A n c] hx rfl (fun j u hj => one_at W _ tt hj) (fun u hu => by simp at hu; subst hu; rfl) (by decide) (by unfold maxLen; omega) (by omega) (by simp; omega) ?_
  intro v' w' hown' hg hw
  obtain ⟨A', c', rfl, _, _⟩ := sl_of_own hown'
  have hG := grew_of q1 hbase' hg (by simpa using hw)
  refine h A' c' w' ⟨fun j => if j = k then A else aA j, fun j => if j = k then c else aC j, ?_, fun j hj => ?_, fun j j' hj hj' hne => ?_⟩ hG
  · have e : slicesR R (fun j => if j = k then A else aA j) (fun j => if j = k then c else aC j) (k + 1) = slicesR R aA aC k ++ [.slice A n c] := by
      unfold slicesR
      rw [List.range_succ, List.map_append]
      congr 1
      · refine List.map_congr_left fun j hj => ?_
        have : j ≠ k := by have := List.mem_range.1 hj; omega
        simp [this]
      · simp [hn]
    rw [e]
    exact hown'
  · by_cases hjk : j = k
    · subst hjk
      simp only [if_pos]
      rw [← hn]
      exact (hG.own hrow (own_apart2 hrow q1 (by decide))).1
    · simp only [if_neg hjk]
      exact (hG.own (q2 j (by omega)) (own_apart2 (q2 j (by omega)) q1 (by decide))).1
  · by_cases hjk : j = k
    · have hjk' : j' ≠ k := fun h => hne (by omega)
      subst hjk
      simp only [if_pos, if_neg hjk']
      rw [← hn]
      exact (hnew j' (by omega)).turn
    · by_cases hjk' : j' = k
      · subst hjk'
        simp only [if_pos, if_neg hjk]
        rw [← hn]
        exact hnew j (by omega)
      · simp only [if_neg hjk, if_neg hjk']
        exact p3 j j' (by omega) (by omega) hne
end
theorem own_far {w : World} {base size n g i : Nat} {e : TypeId} {v : Value} {xs : List Value} (h : w.ownsRow base e size v n xs) (hne : v.ownBlock ≠ some g) (u : Value) : (w.setCell ⟨g, i, none⟩ u).ownsRow base e size v n xs := by
  refine ⟨h.1, h.2.imp id ?_⟩
  rintro ⟨g', cap, cur, rfl, hbg, hg, r⟩
  refine ⟨g', cap, cur, rfl, hbg, ?_, r⟩
  have : g' ≠ g := fun e => by subst e; exact hne rfl
  rw [Below.heap_setCell _ _ _ _ this]; exact hg
/-- One element of one of the lists is changed. -/
theorem OwnBBd.change {w : World} {base K : Nat} {v : Value} {H : List (List Bool)} (h : OwnBBd w base v K H) (hl : H.length = K) (hK : K ≤ 1000000) {k i : Nat} (hk : k < K) (hi : i < (rowB H k).length) :
    ∃ (ga : Nat) (c g ck : Nat), v = .slice (some ⟨ga, 0, none⟩) K c ∧ K ≤ c ∧ c ≤ maxLen ∧ ga < w.heap.size ∧ w.cell? ⟨ga, k, none⟩ = some (.slice (some ⟨g, 0, none⟩) (rowB H k).length ck) ∧ (rowB H k).length ≤ ck ∧ ck ≤ maxLen ∧ base ≤ g ∧ g < w.heap.size ∧ w.frozen? ⟨g, i, none⟩ = false ∧ w.cell? ⟨g, i, none⟩ = some (.bool (bx (rowB H k) i)) ∧
      OwnBB (w.setCell ⟨g, i, none⟩ (.bool true)) base v K (setH H k i) := by
  obtain ⟨aA, aC, q1, q2, q3⟩ := h
  obtain ⟨ga, c, cs, rfl, h1, h2, h3, h4⟩ := own_blk q1 (by omega)
  have hrk := q2 k hk
  obtain ⟨g, ck, cs', hv, h5, h6, h7, h8⟩ := own_blk hrk (by omega)
  have hcell := World.ownsRow.cellAt q1 k (by omega)
  rw [slicesR_get _ _ _ hk, hv] at hcell
  have hci := World.ownsRow.cellAt (hv ▸ hrk) i (by omega)
  rw [bools_get hi] at hci
  injection hv with e1 e2 e3
  refine ⟨ga, c, g, ck, rfl, h1, h2, blk_lt h4, hcell, h5, h6, h7, blk_lt h8, blk_frozen h8 i, hci, aA, aC, ?_, fun j hj => ?_⟩
  · have e : slicesR (setH H k i) aA aC K = slicesR H aA aC K := by
      unfold slicesR
      refine List.map_congr_left fun j _ => ?_
      rw [setH_row_len]
    rw [e]
    exact own_typed q1 h8 (by decide) _
  · by_cases hjk : j = k
    · subst hjk
      have er : rowB (setH H j i) j = (rowB H j).set i true := by unfold setH; rw [rowB_set, if_pos ⟨rfl, by omega⟩]
      rw [er, List.length_set, e1, e3, ← bools_set]
      rw [e1, e3] at hrk
      exact own_upd hrk (.bool true)
    · have er : rowB (setH H k i) j = rowB H j := by unfold setH; rw [rowB_set, if_neg (fun h => hjk h.1)]
      rw [er]
      refine own_far (q2 j hj) ?_ _
      have := (q3 k j hk hj (fun h => hjk h.symm)) g (by rw [e1]; rfl)
      exact this

/-! ## Bytes -/
theorem info_u8 : (Try.prog.info? 5).map (fun i => (i.zero, i.size, i.bytes)) = some (some (.int .u8 0), 1, 1) := by kernel_rfl
theorem u8s_one (xs : List Int) : ∀ u ∈ u8s xs, u.oneCell' = true := by
  intro u hu
  obtain ⟨x, -, rfl⟩ := List.mem_map.1 hu
  rfl
theorem u8s_len (xs : List Int) : (u8s xs).length = xs.length := by simp [u8s]
theorem u8s_set (xs : List Int) (i : Nat) (x : Int) : (u8s xs).set i (.int .u8 x) = u8s (xs.set i x) := by unfold u8s; rw [List.map_set]
theorem u8_none {w : World} {A : Option Addr} {n : Nat} {xs : List Int} (h : IsU8 w A n xs) (ha : A = none) : n = 0 := by
  rcases Nat.eq_zero_or_pos n with h0 | h0
  · exact h0
  · obtain ⟨b, off, hA, -⟩ := h.2.2.2 h0
    rw [ha] at hA; cases hA
theorem u8s_at {w : World} {A : Option Addr} {n : Nat} {xs : List Int} (h : IsU8 w A n xs) : ∀ ad, A = some ad → ∀ j u, (u8s xs)[j]? = some u → w.cell? (ad.add j) = some u := by
  intro ad had j u hj
  have hjl : j < xs.length := by
    rcases Nat.lt_or_ge j xs.length with h0 | h0
    · exact h0
    · rw [List.getElem?_eq_none (by simp [u8s]; omega)] at hj; cases hj
  have hn : j < n := by have := h.1; omega
  obtain ⟨b, off, hA, hb, hc⟩ := h.2.2.2 (by omega)
  rw [hA] at had
  injection had with had
  subst had
  rw [u8s_get hjl] at hj
  have hk := hc j hn
  rw [show (⟨b, off, none⟩ : Addr).add j = ⟨b, off + j, none⟩ by unfold Addr.add; split <;> simp_all, hk]
  exact hj
theorem own_isU8 {w : World} {base n : Nat} {v : Value} {xs : List Int} (h : w.ownsRow base 5 1 v n (u8s xs)) (hn : n ≤ 9223372036854775807) (hr : ∀ x ∈ xs, 0 ≤ x ∧ x ≤ 255) :
    ∃ A c, v = .slice A n c ∧ n ≤ c ∧ c ≤ maxLen ∧ IsU8 w A n xs := by
  obtain ⟨A, c, rfl, h1, h2⟩ := sl_of_own h
  have hx : xs.length = n := by have := h.1; simpa [u8s] using this
  refine ⟨A, c, rfl, h1, h2, hx, hn, hr, fun h0 => ?_⟩
  obtain ⟨g, cap, cs, hv, -, -, -, hb⟩ := own_blk h h0
  injection hv with e1 e2 e3
  refine ⟨g, 0, e1, blk_lt hb, fun j hj => ?_⟩
  subst e1
  rw [Nat.zero_add, World.ownsRow.cellAt h j (by omega), u8s_get (by omega)]
end Go.Proofs.Ytaliekkdamghbaa
