/- Three compounds in boxes of the call's own, with three lists of simple selectors and three lists of truth values that it builds, no two of them in one block. No condition. -/
import Derived.Test.YtbedomopojiehaaVo
import Derived.Test.YtbedomopojiehaaBb
namespace Go.Proofs.Ytbedomopojiehaa
open Go.RowKit

def BoxC (w : World) (g : Nat) (tag : ByteArray) (b : Value) : Prop := w.heap[g]? = some (.cells #[.string tag, b] 65 (0, 0))
/-- Boxes g (they hold b), rows v of simple selectors L, rows x of truth values M; all from the block base on. -/
structure Six (w : World) (base : Nat) (tag : ByteArray) (g1 g2 g3 : Nat) (b1 b2 b3 v1 v2 v3 : Value) (L1 L2 L3 : List Sim) (x1 x2 x3 : Value) (M1 M2 M3 : List Bool) : Prop where
  n12 : g1 ≠ g2
  n13 : g1 ≠ g3
  n23 : g2 ≠ g3
  c1 : BoxC w g1 tag b1
  c2 : BoxC w g2 tag b2
  c3 : BoxC w g3 tag b3
  l1 : base ≤ g1
  l2 : base ≤ g2
  l3 : base ≤ g3
  s1 : OwnSm w base v1 L1
  s2 : OwnSm w base v2 L2
  s3 : OwnSm w base v3 L3
  a12 : Apart v2 v1
  a13 : Apart v3 v1
  a23 : Apart v3 v2
  t1 : OwnB w base x1 M1
  t2 : OwnB w base x2 M2
  t3 : OwnB w base x3 M3
  e12 : Apart x2 x1
  e13 : Apart x3 x1
  e23 : Apart x3 x2
section
variable {w : World} {base : Nat} {tag : ByteArray} {g1 g2 g3 : Nat} {b1 b2 b3 v1 v2 v3 : Value} {L1 L2 L3 : List Sim} {x1 x2 x3 : Value} {M1 M2 M3 : List Bool}
theorem Six.rot (h : Six w base tag g1 g2 g3 b1 b2 b3 v1 v2 v3 L1 L2 L3 x1 x2 x3 M1 M2 M3) : Six w base tag g2 g3 g1 b2 b3 b1 v2 v3 v1 L2 L3 L1 x2 x3 x1 M2 M3 M1 :=
  ⟨h.n23, h.n12.symm, h.n13.symm, h.c2, h.c3, h.c1, h.l2, h.l3, h.l1, h.s2, h.s3, h.s1, h.a23, h.a12.turn, h.a13.turn, h.t2, h.t3, h.t1, h.e23, h.e12.turn, h.e13.turn⟩
theorem Six.below {w' : World} (h : Six w base tag g1 g2 g3 b1 b2 b3 v1 v2 v3 L1 L2 L3 x1 x2 x3 M1 M2 M3) (hb : Below w.heap.size w w') : Six w' base tag g1 g2 g3 b1 b2 b3 v1 v2 v3 L1 L2 L3 x1 x2 x3 M1 M2 M3 :=
  ⟨h.n12, h.n13, h.n23, (hb.block g1 (blk_lt h.c1)).trans h.c1, (hb.block g2 (blk_lt h.c2)).trans h.c2, (hb.block g3 (blk_lt h.c3)).trans h.c3, h.l1, h.l2, h.l3, own_below h.s1 hb, own_below h.s2 hb, own_below h.s3 hb, h.a12, h.a13, h.a23, own_below h.t1 hb, own_below h.t2 hb, own_below h.t3 hb, h.e12, h.e13, h.e23⟩
theorem own_no_box {base' n size : Nat} {e t : TypeId} {v : Value} {xs : List Value} {g : Nat} {cs : Array Value} (h : w.ownsRow base' e size v n xs) (hg : w.heap[g]? = some (.cells cs t (0, 0))) (hne : e ≠ t) : v.ownBlock ≠ some g := fun hk => by
  rcases h.2 with ⟨rfl, -⟩ | ⟨g', cap, cur, rfl, -, hg', -⟩
  · cases hk
  · injection hk with hk
    subst hk
    rw [hg] at hg'
    injection hg' with hg'
    injection hg' with _ h2
    exact hne h2.symm
/-- The first row of simple selectors has grown. -/
theorem Six.growS {w' : World} {v' : Value} {L' : List Sim} (h : Six w base tag g1 g2 g3 b1 b2 b3 v1 v2 v3 L1 L2 L3 x1 x2 x3 M1 M2 M3) (hG : Grow0 w w' base v1 v') (hown : OwnSm w' base v' L') : Six w' base tag g1 g2 g3 b1 b2 b3 v' v2 v3 L' L2 L3 x1 x2 x3 M1 M2 M3 := by
  have bx : ∀ g b, BoxC w g tag b → BoxC w' g tag b := fun g b hc => (hG.2.2.1 g (blk_lt hc) (own_no_box h.s1 hc (by decide))).trans hc
  obtain ⟨p2, q2⟩ := hG.own h.s2 h.a12
  obtain ⟨p3, q3⟩ := hG.own h.s3 h.a13
  exact ⟨h.n12, h.n13, h.n23, bx _ _ h.c1, bx _ _ h.c2, bx _ _ h.c3, h.l1, h.l2, h.l3, hown, p2, p3, q2, q3, h.a23,
    (hG.own h.t1 (own_apart2 h.t1 h.s1 (by decide))).1, (hG.own h.t2 (own_apart2 h.t2 h.s1 (by decide))).1, (hG.own h.t3 (own_apart2 h.t3 h.s1 (by decide))).1, h.e12, h.e13, h.e23⟩
/-- The first row of truth values has grown. -/
theorem Six.growB {w' : World} {x' : Value} {M' : List Bool} (h : Six w base tag g1 g2 g3 b1 b2 b3 v1 v2 v3 L1 L2 L3 x1 x2 x3 M1 M2 M3) (hG : Grow0 w w' base x1 x') (hown : OwnB w' base x' M') : Six w' base tag g1 g2 g3 b1 b2 b3 v1 v2 v3 L1 L2 L3 x' x2 x3 M' M2 M3 := by
  have bx : ∀ g b, BoxC w g tag b → BoxC w' g tag b := fun g b hc => (hG.2.2.1 g (blk_lt hc) (own_no_box h.t1 hc (by decide))).trans hc
  obtain ⟨p2, q2⟩ := hG.own h.t2 h.e12
  obtain ⟨p3, q3⟩ := hG.own h.t3 h.e13
  exact ⟨h.n12, h.n13, h.n23, bx _ _ h.c1, bx _ _ h.c2, bx _ _ h.c3, h.l1, h.l2, h.l3,
    (hG.own h.s1 (own_apart2 h.s1 h.t1 (by decide))).1, (hG.own h.s2 (own_apart2 h.s2 h.t1 (by decide))).1, (hG.own h.s3 (own_apart2 h.s3 h.t1 (by decide))).1, h.a12, h.a13, h.a23, hown, p2, p3, q2, q3, h.e23⟩
/-- The first box is given its row. -/
theorem Six.store (h : Six w base tag g1 g2 g3 b1 b2 b3 v1 v2 v3 L1 L2 L3 x1 x2 x3 M1 M2 M3) (y : Value) : Six (w.setCell ⟨g1, 1, none⟩ y) base tag g1 g2 g3 y b2 b3 v1 v2 v3 L1 L2 L3 x1 x2 x3 M1 M2 M3 := by
  have far : ∀ g b, g ≠ g1 → BoxC w g tag b → BoxC (w.setCell ⟨g1, 1, none⟩ y) g tag b := fun g b hn hc => blk_far hc hn y
  have hc := blk_set h.c1 1 y
  exact ⟨h.n12, h.n13, h.n23, hc, far _ _ h.n12.symm h.c2, far _ _ h.n13.symm h.c3, h.l1, h.l2, h.l3, own_typed h.s1 h.c1 (by decide) y, own_typed h.s2 h.c1 (by decide) y, own_typed h.s3 h.c1 (by decide) y, h.a12, h.a13, h.a23,
    own_typed h.t1 h.c1 (by decide) y, own_typed h.t2 h.c1 (by decide) y, own_typed h.t3 h.c1 (by decide) y, h.e12, h.e13, h.e23⟩
theorem box_new (w : World) (tag : ByteArray) {g : Nat} (h1 : w.heap.size ≤ g) (h2 : g < w.heap.size + 3) : BoxC (((w.alloc (.cells #[.string tag, .slice none 0 0] 65)).alloc (.cells #[.string tag, .slice none 0 0] 65)).alloc (.cells #[.string tag, .slice none 0 0] 65)) g tag (.slice none 0 0) := by
  rcases (by omega : g = w.heap.size ∨ g = w.heap.size + 1 ∨ g = w.heap.size + 1 + 1) with rfl | rfl | rfl
  · exact blk_alloc (blk_alloc (blk_new _ _ _) _) _
  · exact blk_alloc (blk_at _ _ _ _ (by simp)) _
  · exact blk_at _ _ _ _ (by simp)
theorem six_new (w : World) (tag : ByteArray) {g1 g2 g3 : Nat} (n12 : g1 ≠ g2) (n13 : g1 ≠ g3) (n23 : g2 ≠ g3) (h1 : w.heap.size ≤ g1 ∧ g1 < w.heap.size + 3) (h2 : w.heap.size ≤ g2 ∧ g2 < w.heap.size + 3) (h3 : w.heap.size ≤ g3 ∧ g3 < w.heap.size + 3) :
    Six (((w.alloc (.cells #[.string tag, .slice none 0 0] 65)).alloc (.cells #[.string tag, .slice none 0 0] 65)).alloc (.cells #[.string tag, .slice none 0 0] 65)) w.heap.size tag g1 g2 g3 (.slice none 0 0) (.slice none 0 0) (.slice none 0 0) (.slice none 0 0) (.slice none 0 0) (.slice none 0 0) [] [] [] (.slice none 0 0) (.slice none 0 0) (.slice none 0 0) [] [] [] :=
  ⟨n12, n13, n23, box_new w tag h1.1 h1.2, box_new w tag h2.1 h2.2, box_new w tag h3.1 h3.2, h1.1, h2.1, h3.1, OwnSm.nil _ _, OwnSm.nil _ _, OwnSm.nil _ _, Apart.nil _, Apart.nil _, Apart.nil _, OwnB.nil _ _, OwnB.nil _ _, OwnB.nil _ _, Apart.nil _, Apart.nil _, Apart.nil _⟩
theorem BoxC.cells {g : Nat} {b : Value} (h : BoxC w g tag b) : w.cell? ⟨g, 0, none⟩ = some (.string tag) ∧ w.cell? ⟨g, 1, none⟩ = some b ∧ w.frozen? ⟨g, 1, none⟩ = false :=
  ⟨blk_cell h 0, blk_cell h 1, blk_frozen h 1⟩
end
theorem rows_own {w : World} {base : Nat} {v x : Value} {S : List Sim} {B : List Bool} {I : List Nat} {n : Nat} (hn : I.length = n) (hs : OwnSm w base v (I.map (sm S))) (hx : OwnB w base x (I.map (bx B))) (hle : n ≤ 1000000) :
    ∃ A c A' c', v = .slice A n c ∧ x = .slice A' n c' ∧ IsSims w A n (I.map (sm S)) ∧ IsBools w A' n (I.map (bx B)) := by
  have l1 : (I.map (sm S)).length = n := by rw [List.length_map, hn]
  have l2 : (I.map (bx B)).length = n := by rw [List.length_map, hn]
  obtain ⟨A, c, hv, -, -, h1⟩ := hs.isSims (by rw [l1]; exact hle)
  obtain ⟨A', c', hx', -, -, h2⟩ := OwnB.isBools (xs := I.map (bx B)) hx (by rw [l2]; exact hle)
  rw [l1] at hv h1
  rw [l2] at hx' h2
  exact ⟨A, c, A', c', hv, hx', h1, h2⟩
/-- A list of indices that asks the same: the answer of the whole. -/
theorem rows_same {w : World} {base : Nat} {v x : Value} {T : List ANode} {j : Nat} {tag : ByteArray} {S : List Sim} {m : Int} {B : List Bool} {I : List Nat} {n k : Nat} {r : Bool} (hn : I.length = n) (hs : OwnSm w base v (I.map (sm S))) (hx : OwnB w base x (I.map (bx B))) (h64 : n ≤ 64) (h0 : 0 < n)
    (ha : askI T [(j : Int)] = 0) (hg : goodB T = true) (hm : modeB T m = true) (ho : okC tag S) (hI : ∀ y ∈ I, y < S.length) (hr : matC T j tag S m (bx B) k = r) (hall : I.all (oneC T j S m (bx B)) = (List.range k).all (oneC T j S m (bx B))) :
    ∃ A c A' c' L M, v = .slice A n c ∧ x = .slice A' n c' ∧ IsSims w A n L ∧ IsBools w A' n M ∧ cmV T j tag L m M n = r ∧ cmE T j tag L m n = 0 := by
  obtain ⟨A, c, A', c', h1, h2, h3, h4⟩ := rows_own hn hs hx (by omega)
  obtain ⟨e1, e2⟩ := cm_map (B := B) hn ha hg hm (okC_map ho hI (by omega) (by omega))
  refine ⟨A, c, A', c', _, _, h1, h2, h3, h4, ?_, e1⟩
  rw [e2, hall, ← hr]
  rfl
/-- Less of them: the answer follows from that of the whole, or there is nothing left to ask. -/
theorem rows_less {w : World} {base : Nat} {v x : Value} {T : List ANode} {j : Nat} {tag : ByteArray} {S : List Sim} {m : Int} {B : List Bool} {I : List Nat} {n k : Nat} {r : Bool} (hn : I.length = n) (hs : OwnSm w base v (I.map (sm S))) (hx : OwnB w base x (I.map (bx B))) (h64 : n ≤ 64)
    (ha : askI T [(j : Int)] = 0) (hg : goodB T = true) (hm : modeB T m = true) (ho : okC tag S) (hI : ∀ y ∈ I, y < S.length) (hr : matC T j tag S m (bx B) k = r) (hall : (List.range k).all (oneC T j S m (bx B)) = true → I.all (oneC T j S m (bx B)) = true) :
    ∃ A c A' c' L M z E, v = .slice A n c ∧ x = .slice A' n c' ∧ IsSims w A n L ∧ IsBools w A' n M ∧ cmV T j tag L m M n = z ∧ cmE T j tag L m n = E ∧ ckC tag L = E ∧ (E = 12 ∨ E = 0 ∧ (r = true → z = true)) := by
  obtain ⟨A, c, A', c', h1, h2, h3, h4⟩ := rows_own hn hs hx (by omega)
  by_cases hz : tag.size = 0 ∧ n = 0
  · have hno : ¬ okC tag (I.map (sm S)) := fun h => h.2.2.1 ⟨hz.1, by rw [List.length_map, hn]; exact hz.2⟩
    obtain ⟨e1, e2⟩ := cm_bad (n := n) (M := I.map (bx B)) ha hg hm hno
    exact ⟨A, c, A', c', _, _, _, 12, h1, h2, h3, h4, rfl, e1, ckC_no hno, .inl rfl⟩
  · have hyes := okC_map ho hI (by omega) (by rw [hn]; exact hz)
    obtain ⟨e1, e2⟩ := cm_map (B := B) hn ha hg hm hyes
    refine ⟨A, c, A', c', _, _, _, 0, h1, h2, h3, h4, e2, e1, ckC_yes hyes, .inr ⟨rfl, fun h => ?_⟩⟩
    rw [h] at hr
    unfold matC at hr
    rw [Bool.and_eq_true] at hr ⊢
    exact ⟨hr.1, hall hr.2⟩
end Go.Proofs.Ytbedomopojiehaa
