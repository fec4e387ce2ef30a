/- Walks: setting an attribute, by the reference. No condition but those of the inner functions. -/
import Derived.Test.YtfiiikbbiimdiaaAuns
import Derived.WalkLawsBesides
import Derived.Test.YtfiiikbbiimdiaaFe
namespace Go.Proofs.Ytfiiikbbiimdiaa
open Go.RowKit

def OwnA (w : World) (base : Nat) (v : Value) (xs : List (ByteArray × ByteArray)) : Prop := w.ownsRow base 83 2 v xs.length (atts xs)
theorem OwnA.nil (w : World) (base : Nat) : OwnA w base (.slice none 0 0) [] := World.ownsRow_nil _ _ _ _
theorem OwnA.alloc {w : World} {base : Nat} {v : Value} {xs : List (ByteArray × ByteArray)} (h : OwnA w base v xs) (o : Obj) : OwnA (w.alloc o) base v xs := World.ownsRow.alloc h o
theorem atts_two (W : World) (a b : ByteArray) (tt : TypeId) {j : Nat} {x : Value} (hj : (atts [(a, b)])[j]? = some x) : (W.alloc (.cells #[.string a, .string b] tt)).cell? ((⟨W.heap.size, 0, none⟩ : Addr).add j) = some x :=
  src_new (vs := [.string a, .string b]) (heap_alloc_new W _) j x hj
section
variable {W : World} {ops : Array Oper} {rest : List Oper} {o : Oper} {a : Act} {Q : Exit → Act → World → Prop}
theorem wpList_pushA (hgd : o.guard = none) (s x : Operand) (ho : o.op = .call { callee := .builtin .append, args := #[s, x], argTypes := #[59, 59] })
    {base : Nat} {v : Value} {pre : List (ByteArray × ByteArray)} (hown : OwnA W base v pre) (y z : ByteArray) (tt : TypeId) (G : Nat) (hG : W.heap.size = G) (hs : a.eval s = v) (hx : a.eval x = .slice (some ⟨G, 0, none⟩) 1 1)
    (hn : pre.length ≤ 1000000) (hbase : base ≤ W.heap.size)
    (h : ∀ A' c' w', OwnA w' base (.slice A' (pre.length + 1) c') (pre ++ [(y, z)]) → Grew W w' base v (.slice A' (pre.length + 1) c') → wpList Try.prog ops Q rest (a.put o.dst (.slice A' (pre.length + 1) c')) w') :
    wpList Try.prog ops Q (o :: rest) a (W.alloc (.cells #[.string y, .string z] tt)) := by
  obtain ⟨i0, hI, hz0, hz1, hz2⟩ := info_parts info_attr
  subst hG
  refine wpList_append_mine hgd s x 59 ho 83 i0 (.agg #[.string .empty, .string .empty]) 2 32 Try.underlying59 hI hz0 hz1 hz2 rfl (by decide) (World.ownsRow.alloc hown _) hs ⟨W.heap.size, 0, none⟩ 1 1 (atts [(y, z)]) hx rfl (fun j u hj => atts_two W y z tt hj) (atts_one _) (by decide) (by unfold maxLen; omega) (by omega) (by simp; omega) ?_
  intro v' w' hown' hg hw
  obtain ⟨A', c', rfl, _, _⟩ := sl_of_own hown'
  exact h A' c' w' (by unfold OwnA; rw [List.length_append, ← atts_app]; exact hown') (grew_of' hown hbase hg (fun k hk => by
    rcases hw with h | h
    · rw [h] at hk; exact .inl hk
    · rw [h] at hk; injection hk with hk; simp at hk; exact .inr (by omega)))
end

/-- What the reference has put together behind k attributes. -/
def lowB (l : List (ByteArray × ByteArray)) (s : ByteArray) : Nat := if hasA l s = true then lowA l s + 1 else lowA l s
def putS (l : List (ByteArray × ByteArray)) (s v : ByteArray) (k : Nat) : List (ByteArray × ByteArray) := if k ≤ lowA l s then l.take k else l.take (lowA l s) ++ [(s, v)] ++ (l.take k).drop (lowB l s)
theorem at_pair {l : List (ByteArray × ByteArray)} {k : Nat} (hk : k < l.length) : l.take (k + 1) = l.take k ++ [(nm l k, vl l k)] := by
  rw [List.take_succ_eq_append_getElem hk]
  unfold nm vl
  rw [List.getD_eq_getElem?_getD, List.getElem?_eq_getElem hk]
  rfl
theorem putS_early {l : List (ByteArray × ByteArray)} {s v : ByteArray} {k : Nat} (hk : k < l.length) (h : k < lowA l s) : putS l s v (k + 1) = putS l s v k ++ [(nm l k, vl l k)] := by
  unfold putS
  rw [if_pos (by omega), if_pos (by omega), at_pair hk]
theorem putS_same {l : List (ByteArray × ByteArray)} {s v : ByteArray} {k : Nat} (h : k = lowA l s) (hh : hasA l s = true) : putS l s v (k + 1) = putS l s v k ++ [(s, v)] := by
  have h1 : lowB l s = k + 1 := by unfold lowB; rw [if_pos hh, h]
  unfold putS
  rw [h1, ← h, if_neg (by omega), if_pos (by omega), List.drop_of_length_le (by simp; omega), List.append_nil]
theorem putS_gap {l : List (ByteArray × ByteArray)} {s v : ByteArray} {k : Nat} (hk : k < l.length) (h : k = lowA l s) (hh : hasA l s = false) : putS l s v (k + 1) = putS l s v k ++ [(s, v)] ++ [(nm l k, vl l k)] := by
  have h1 : lowB l s = k := by unfold lowB; rw [hh, if_neg (by decide), h]
  unfold putS
  rw [h1, ← h, if_neg (by omega), if_pos (by omega), at_pair hk, List.drop_left' (by simp; omega)]
theorem putS_late {l : List (ByteArray × ByteArray)} {s v : ByteArray} {k : Nat} (hk : k < l.length) (h : lowA l s < k) : putS l s v (k + 1) = putS l s v k ++ [(nm l k, vl l k)] := by
  have hb : lowB l s ≤ k := by unfold lowB; split <;> omega
  unfold putS
  rw [if_neg (by omega), if_neg (by omega), at_pair hk, List.drop_append_of_le_length (by simp; omega), List.append_assoc, List.append_assoc, List.append_assoc]
theorem putS_end {l : List (ByteArray × ByteArray)} {s v : ByteArray} : (lowA l s < l.length → putS l s v l.length = putL l s v) ∧ (lowA l s = l.length → putS l s v l.length ++ [(s, v)] = putL l s v) := by
  constructor
  · intro h
    unfold putS putL lowB
    rw [if_neg (by omega), List.take_length]
    by_cases hh : hasA l s = true
    · rw [if_pos hh, if_pos hh, List.set_eq_take_append_cons_drop, if_pos h]; simp
    · rw [if_neg hh, if_neg hh]
  · intro h
    have hh : hasA l s = false := by unfold hasA; simp; omega
    unfold putS putL
    rw [if_pos (by omega), hh, if_neg (by decide), h, List.take_length, List.drop_length]
    simp
theorem putS_len (l : List (ByteArray × ByteArray)) (s v : ByteArray) (k : Nat) : (putS l s v k).length ≤ k + 1 := by
  unfold putS
  split
  · rw [List.length_take]; omega
  · have : lowA l s ≤ lowB l s := by unfold lowB; split <;> omega
    simp only [List.length_append, List.length_take, List.length_drop, List.length_cons, List.length_nil]; omega

/-- The node's attributes are put in: what the rest of the walk needs. -/
theorem put_fin {w w1 W : World} {g c4 n k bN d : Nat} {T : List ANode} {A' C' B : Option Addr} {ac' cc' : Nat} {l' : List (ByteArray × ByteArray)}
    (N : NodeAt (w1.alloc (.cells #[.slice (some ⟨g, 0, none⟩) n c4] 24)) bN (.slice (some ⟨g, 0, none⟩) n c4) n T k g c4 A' ac' C' cc')
    (hr1a : (w1.alloc (.cells #[.slice (some ⟨g, 0, none⟩) n c4] 24)).heap[w.heap.size + 1]? = some (.cells #[.slice none 0 0] 24 (0, 0)))
    (hz01 : w.heap.size + 1 < w1.heap.size) (hB1a : Below w.heap.size w (w1.alloc (.cells #[.slice (some ⟨g, 0, none⟩) n c4] 24)))
    (hbF : Below (w1.heap.size + 1) (w1.alloc (.cells #[.slice (some ⟨g, 0, none⟩) n c4] 24)) W) (hownF : OwnA W (w1.heap.size + 1) (.slice B l'.length d) l')
    (hl : T.length = n) (_ : k < n) (hn64 : n ≤ 64) (hfit8 : Fits (setA T k l')) (hb1 : w.heap.size ≤ bN) (hb2 : bN ≤ w1.heap.size + 1) :
    W.cell? ⟨w1.heap.size, 0, none⟩ = some (.slice (some ⟨g, 0, none⟩) n c4) ∧ W.cell? ⟨w.heap.size + 1, 0, none⟩ = some (.slice none 0 0) ∧ W.frozen? ⟨w.heap.size + 1, 0, none⟩ = false ∧
    W.cell? ⟨g, k * 4 + 1, none⟩ = some (.slice A' (nd T k).attrs.length ac') ∧ W.frozen? ⟨g, k * 4 + 1, none⟩ = false ∧ ¬ (w1.heap.size = g) ∧ ¬ (w.heap.size + 1 = g) ∧ ¬ (w.heap.size + 1 = w1.heap.size) ∧
    Hid (MadeOwn w n (setA T k l') (.returned (.agg #[.slice (some ⟨g, 0, none⟩) n c4])) ((W.setCell ⟨g, k * 4 + 1, none⟩ (.slice B l'.length d)).setCell ⟨w.heap.size + 1, 0, none⟩ (.slice (some ⟨g, 0, none⟩) n c4))) ∧
    Hid (((W.setCell ⟨g, k * 4 + 1, none⟩ (.slice B l'.length d)).setCell ⟨w.heap.size + 1, 0, none⟩ (.slice (some ⟨g, 0, none⟩) n c4)).cell? ⟨w.heap.size + 1, 0, none⟩ = some (.slice (some ⟨g, 0, none⟩) n c4)) := by
  have hk1a := blk_new w1 #[.slice (some ⟨g, 0, none⟩) n c4] 24
  have hbkF : ∀ q, q < w1.heap.size + 1 → W.heap[q]? = (w1.alloc (.cells #[.slice (some ⟨g, 0, none⟩) n c4] 24)).heap[q]? := fun q hq => hbF.block q hq
  have hz1 : (w1.alloc (.cells #[.slice (some ⟨g, 0, none⟩) n c4] 24)).heap.size = w1.heap.size + 1 := by simp
  have hO7 := N.onA W B d l' (fun q hq _ => hbkF q (by rw [hz1] at hq; exact hq)) (own_base hownF hb2) (fun q hq => .inr (by rw [hz1]; exact (own_lt hownF q hq).1))
  obtain ⟨csN, hgN⟩ := N.typ
  have hglt := N.lt
  rw [hz1] at hglt
  have hgN7 := (hbkF g hglt).trans hgN
  have hr7 := (hbkF (w.heap.size + 1) (by omega)).trans hr1a
  have hk7 := (hbkF w1.heap.size (by omega)).trans hk1a
  have ng4 : ¬ (w.heap.size + 1 = g) := blk_ne hr7 hgN7 (by decide)
  have hr8 := blk_far (p := ⟨g, k * 4 + 1, none⟩) hr7 ng4 (.slice B l'.length d)
  have hBF := Below.on hB1a (by rw [hz1]; exact hbF)
  have hlowN := N.low
  have hB8 := hBF.setCell (p := ⟨g, k * 4 + 1, none⟩) (by show w.heap.size ≤ g; omega) (.slice B l'.length d)
  have hO8 := (hO7.set_typed (i := 0) hr8 (.slice (some ⟨g, 0, none⟩) n c4)).base (base := w.heap.size) hb1
  obtain ⟨A9, c9, hv9, -, -, hT9⟩ := isTree_of_own hO8 (by rw [setA_len]; exact hl) (by omega) hfit8
  injection hv9 with h1 hx9 hx10
  subst h1
  have hB9 := hB8.setCell (p := ⟨w.heap.size + 1, 0, none⟩) (by show w.heap.size ≤ w.heap.size + 1; omega) (.slice (some ⟨g, 0, none⟩) n c4)
  refine ⟨by rw [blk_cell hk7]; rfl, by rw [blk_cell hr7]; rfl, blk_frozen hr7 0, (World.cell?_of_block (hbkF g hglt)).trans N.c1, blk_frozen hgN7 _, blk_ne hk7 hgN7 (by decide), ng4, by omega, ⟨_, _, rfl, hO8, hT9, hB9⟩, (blk_cell (blk_set hr8 0 (.slice (some ⟨g, 0, none⟩) n c4)) 0).trans rfl⟩

theorem putL_len (l : List (ByteArray × ByteArray)) (s v : ByteArray) : (putL l s v).length ≤ l.length + 1 := by
  unfold putL
  split
  · rw [List.length_set]; omega
  · simp only [List.length_append, List.length_take, List.length_drop, List.length_cons, List.length_nil]; omega
theorem putL_mem {l : List (ByteArray × ByteArray)} {s v : ByteArray} {y : ByteArray × ByteArray} (h : y ∈ putL l s v) : y ∈ l ∨ y = (s, v) := by
  unfold putL at h
  split at h
  · exact List.mem_or_eq_of_mem_set h
  · simp only [List.mem_append, List.mem_singleton] at h
    rcases h with (h | h) | h
    · exact .inl (List.mem_of_mem_take h)
    · exact .inr h
    · exact .inl (List.mem_of_mem_drop h)
set_option maxRecDepth 100000 in
set_option maxHeartbeats 4000000 in
theorem rput_ok (A : Option Addr) (n c : Nat) (T : List ANode) (k : Nat) (s v : ByteArray) (w : World) (h : IsTree w A n T) (hk : k < n) (hg : goodB T = true) (hs : s.size ≤ 9223372036854775807) (hv : v.size ≤ 9223372036854775807) :
    Calls Try.prog 74 #[.agg #[.slice A n c], .int .i64 k, .string s, .string v] w (MadeOwn w n (setA T k (putL (atl T k) s v))) := by
  have hT := hide h
  have hl := h.1
  have ho := hide h.2.2.2
  clear h
  have hB0 : Below w.heap.size w ((w.alloc (.cells #[.slice A n c] 24)).alloc (.cells #[.slice none 0 0] 24)) := below_alloc (below_alloc (Below.refl _ _) _) _
  have hbox0 : ((w.alloc (.cells #[.slice A n c] 24)).alloc (.cells #[.slice none 0 0] 24)).cell? ⟨w.heap.size, 0, none⟩ = some (.slice A n c) := by go_simp
  have hr0 : ((w.alloc (.cells #[.slice A n c] 24)).alloc (.cells #[.slice none 0 0] 24)).heap[w.heap.size + 1]? = some (.cells #[.slice none 0 0] 24 (0, 0)) := blk_at _ _ _ _ (by simp)
  obtain ⟨hsd, h16⟩ := good_attrs hg (by omega : k < T.length)
  obtain ⟨b, off, aA, cA, aC, cC, rfl, hbl, -, c1, -, -, hA, -⟩ := ho.out (by omega)
  have c1' := hide (c1 k hk)
  have hA' := hide (hA k hk).1
  have hac := (hA k hk).2
  change Hid (w.cell? ⟨b, off + k * 4 + 1, none⟩ = some (Value.slice (aA k) (atl T k).length (aC k))) at c1'
  change Hid (IsAttrs w (aA k) (atl T k).length (atl T k)) at hA'
  have hlo := (low_split hsd s).1
  have hlt := (low_split hsd s).2.1
  have hge := (low_split hsd s).2.2
  have hhas := hasA_iff hsd s
  have hat := fun j (hj : j < (atl T k).length) => has_at hsd hj
  have hatl : (nd T k).attrs = atl T k := rfl
  have hatl' := hide hatl
  generalize aA k = AA at c1' hA'
  generalize aC k = ac at c1' hac
  generalize hla : atl T k = l at *
  obtain ⟨TT, hTT0⟩ : ∃ TT, TT = setA T k (putL l s v) := ⟨_, rfl⟩
  rw [← hTT0]
  have hTT1 := hide hTT0
  have hlt' := hide hlt
  have hge' := hide hge
  have hhas' := hide hhas
  have hat' := hide hat
  have hfit := hide (good_fits hg)
  have hn64 : n ≤ 64 := by have := ((goodB_iff T).1 hg).2.1; omega
  clear hTT0 hlt hge hhas hat hatl hla hsd c1 hA hg ho hac
  go_enter Try.func74, Try.ntmps74
  go_wp2_with fail
  refine (twin_ok _ _ _ T _ (hT.out.below hB0) (by omega) hfit.out).mono ?_
  rintro e w1 ⟨A1, c4, rfl, hO4, -, hb1⟩
  have hB1 := Below.on hB0 hb1
  have hbox1 := cell_later hb1 hbox0
  have hr1 := (hb1.block (w.heap.size + 1) (blk_lt hr0)).trans hr0
  have hO4a := hO4.below (below_alloc (Below.refl _ _) (.cells #[.slice A1 n c4] 24))
  obtain ⟨g, cap, A', ac', C', cc', N⟩ := hO4a.node hk hl
  have hval := N.val
  injection hval with e1 e2 e3
  subst e1 e3
  have hr1a := blk_alloc hr1 (.cells #[.slice (some ⟨g, 0, none⟩) n c4] 24)
  have hk1a := blk_new w1 #[.slice (some ⟨g, 0, none⟩) n c4] 24
  have hN := hide N
  have hB1a := below_alloc hB1 (.cells #[.slice (some ⟨g, 0, none⟩) n c4] 24)
  have hbox1a := cell_later (below_alloc (Below.refl _ _) (.cells #[.slice (some ⟨g, 0, none⟩) n c4] 24)) hbox1
  obtain ⟨m, hm⟩ : ∃ m, l.length = m := ⟨_, rfl⟩
  have hm' := hide hm
  rw [hm] at c1' hA' hlo h16
  have hz01 := blk_lt hr1
  have hfitP : Hid (Fits (setA T k (putL l s v))) := fits_setA hfit.out (by omega) (by have := putL_len l s v; omega) (fun y hy => by
    have hfk := (hfit.out _ (nd_mem (T := T) (i := k) (by omega))).2.2.2
    rw [hatl'.out] at hfk
    rcases putL_mem hy with h | rfl
    · exact hfk y h
    · exact ⟨hs, hv⟩)
  have hbn1 : Hid (w.heap.size ≤ ((w.alloc (.cells #[.slice (some ⟨b, off, none⟩) n c] 24)).alloc (.cells #[.slice none 0 0] 24)).heap.size) := by show _ ≤ _; simp; omega
  have hbn2 : Hid (((w.alloc (.cells #[.slice (some ⟨b, off, none⟩) n c] 24)).alloc (.cells #[.slice none 0 0] 24)).heap.size ≤ w1.heap.size + 1) := by show _ ≤ _; simp; omega
  clear N hO4a hO4 e2 hr1 hbox1 hB1 hb1 hr0 hbox0 hB0 hm
  go_wp2
  go_loopw [10, 11, 12] (fun x y z wr => ∃ (q : Nat) (B : Option Addr) (d : Nat), q ≤ m ∧ z = .int .i64 q ∧ y = .bool (decide (lowA l s < q)) ∧ x = .slice B (putS l s v q).length d ∧ OwnA wr (w1.heap.size + 1) x (putS l s v q) ∧ Below (w1.heap.size + 1) (w1.alloc (.cells #[.slice (some ⟨g, 0, none⟩) n c4] 24)) wr) (fun _ _ z _ => m - (intOf z).toNat)
  case atStart => exact ⟨0, none, 0, Nat.zero_le _, rfl, rfl, by simp [putS], by simpa [putS] using OwnA.nil _ _, by simpa using Below.refl _ _⟩
  case round =>
    obtain ⟨q, B, d, hq, rfl, rfl, rfl, hown, hb⟩ := hrel
    have hzr : w1.heap.size + 1 ≤ wr.heap.size := by have := hb.size; simp at this; exact this
    have hb' : Below (w1.alloc (.cells #[.slice (some ⟨g, 0, none⟩) n c4] 24)).heap.size (w1.alloc (.cells #[.slice (some ⟨g, 0, none⟩) n c4] 24)) wr := by simpa using hb
    have hBr := Below.on hB1a hb'
    have hbx := cell_later hb' hbox1a
    have g1 := (old hBr _ _ hbl).trans c1'.out
    have hown' := hide hown
    have hpl := putS_len l s v q
    clear hown
    by_cases hqm : q < m
    · obtain ⟨ba, oa, rfl, hba, ca0, ca1⟩ := hA'.out.2.2.2 (by omega)
      have g2 := (old hBr _ _ hba).trans (ca0 q hqm)
      have g3 := (old hBr _ _ hba).trans (ca1 q hqm)
      have hbal : ba < wr.heap.size := Nat.lt_of_lt_of_le hba hBr.size
      clear ca0 ca1
      by_cases hlt1 : q < lowA l s
      · have hbf : Op.bytesLess (nm l q).toList s.toList = true := hlt'.out q hlt1
        have hne := str_ne (a := nm l q) (b := s) (by rintro rfl; rw [less_irr] at hbf; cases hbf)
        have hn2 := hide (putS_early (s := s) (v := v) (by rw [hm'.out]; exact hqm) hlt1)
        have hd1 : decide (lowA l s < q) = false := by simp; omega
        have hd2 : decide (lowA l s < q + 1) = false := by simp; omega
        have hd2' := hide hd2
        clear hd2
        go_wp2_with (at_builtin; refine wpList_pushA rfl (.tmp 54) (.tmp 56) rfl (hown'.out.alloc _) (nm l q) (vl l q) _ (wr.heap.size + 1) (by simp) rfl rfl (by omega) (by simp; omega) ?_; intro A2 d2 w2 hown2 hg2)
        go_roundw
        case rel => exact ⟨q + 1, A2, d2, by omega, by go_num, by rw [hd2'.out], by rw [hn2.out]; simp, by rw [hn2.out]; exact hown2, hg2.below (Nat.le_refl _) (hb.alloc hzr _)⟩
        case measure => simp [intOf]; omega
      · have hbf : Op.bytesLess (nm l q).toList s.toList = false := hge'.out q (by omega) (by rw [hm'.out]; exact hqm)
        have hd2' : Hid (decide (lowA l s < q + 1) = true) := by show _ = _; simp; omega
        have hob : (Value.slice B (putS l s v q).length d).ownBlock ≠ some wr.heap.size := fun e => by have := (World.ownsRow.lt hown'.out _ e).2; omega
        by_cases hqe : q = lowA l s
        · have hd1 : decide (lowA l s < q) = false := by simp; omega
          cases hh : hasA l s
          · have hne := str_ne (a := nm l q) (b := s) (fun e => by
              have := hhas'.out.2 ⟨q, by rw [hm'.out]; exact hqm, e⟩
              rw [hh] at this; cases this)
            have hn2 := hide (putS_gap (s := s) (v := v) (by rw [hm'.out]; exact hqm) hqe hh)
            clear hh hqe
            go_wp2_with (first | (at_builtin; refine wpList_pushA rfl (.tmp 44) (.tmp 48) rfl (hown'.out.alloc _) s v _ (wr.heap.size + 1) (by simp) rfl rfl (by omega) (by simp; omega) ?_; intro A2 d2 w2 hown2 hg2; have hown2' := hide hown2; have r0 : w2.cell? ⟨wr.heap.size, 0, none⟩ = some (.string (nm l q)) := (World.cell?_of_block (hg2.2.2.2.1 wr.heap.size (by simp) hob)).trans (by go_simp); have r1 : w2.cell? ⟨wr.heap.size, 1, none⟩ = some (.string (vl l q)) := (World.cell?_of_block (hg2.2.2.2.1 wr.heap.size (by simp) hob)).trans (by go_simp); have hz2 : w1.heap.size + 1 ≤ w2.heap.size := (by have := hg2.lt; simp at this; omega); clear hown2) | (at_builtin; refine wpList_pushA rfl (.tmp 54) (.tmp 56) rfl hown2'.out (nm l q) (vl l q) _ w2.heap.size rfl rfl rfl (by simp; omega) hz2 ?_; intro A3 d3 w3 hown3 hg3))
            go_roundw
            case rel => exact ⟨q + 1, A3, d3, by omega, by go_num, by rw [hd2'.out], by rw [hn2.out]; simp, by rw [hn2.out]; simpa using hown3, hg3.below (Nat.le_refl _) (hg2.below (Nat.le_refl _) (hb.alloc hzr _))⟩
            case measure => simp [intOf]; omega
          · have hne := str_eq (a := nm l q) (b := s) (by
              obtain ⟨j, hj, hje⟩ := hhas'.out.1 hh
              have := hat'.out j hj
              rw [hje] at this
              rw [hqe, this.1, hje])
            have hn2 := hide (putS_same (v := v) hqe hh)
            clear hh hqe
            go_wp2_with (first | (at_builtin; refine wpList_pushA rfl (.tmp 44) (.tmp 48) rfl (hown'.out.alloc _) s v _ (wr.heap.size + 1) (by simp) rfl rfl (by omega) (by simp; omega) ?_; intro A2 d2 w2 hown2 hg2; have hown2' := hide hown2; have r0 : w2.cell? ⟨wr.heap.size, 0, none⟩ = some (.string (nm l q)) := (World.cell?_of_block (hg2.2.2.2.1 wr.heap.size (by simp) hob)).trans (by go_simp); clear hown2))
            go_roundw
            case rel => exact ⟨q + 1, A2, d2, by omega, by go_num, by rw [hd2'.out], by rw [hn2.out]; simp, by rw [hn2.out]; exact hown2'.out, hg2.below (Nat.le_refl _) (hb.alloc hzr _)⟩
            case measure => simp [intOf]; omega
        · have hd1 : decide (lowA l s < q) = true := by simp; omega
          have hne := str_ne (a := nm l q) (b := s) (fun e => by
            have := hat'.out q (by rw [hm'.out]; exact hqm)
            rw [e] at this
            omega)
          have hn2 := hide (putS_late (s := s) (v := v) (by rw [hm'.out]; exact hqm) (by omega))
          clear hqe
          go_wp2_with (at_builtin; refine wpList_pushA rfl (.tmp 54) (.tmp 56) rfl (hown'.out.alloc _) (nm l q) (vl l q) _ (wr.heap.size + 1) (by simp) rfl rfl (by omega) (by simp; omega) ?_; intro A2 d2 w2 hown2 hg2)
          go_roundw
          case rel => exact ⟨q + 1, A2, d2, by omega, by go_num, by rw [hd2'.out], by rw [hn2.out]; simp, by rw [hn2.out]; exact hown2, hg2.below (Nat.le_refl _) (hb.alloc hzr _)⟩
          case measure => simp [intOf]; omega
    · obtain rfl : m = q := by omega
      have hob : (Value.slice B (putS l s v m).length d).ownBlock ≠ some wr.heap.size := fun e => by have := (World.ownsRow.lt hown'.out _ e).2; omega
      have hbk : ∀ q, q < w1.heap.size + 1 → wr.heap[q]? = (w1.alloc (.cells #[.slice (some ⟨g, 0, none⟩) n c4] 24)).heap[q]? := fun q hq => hb.block q hq
      by_cases hlm : lowA l s < m
      · have hd1 : decide (lowA l s < m) = true := by simp; omega
        have hfin : putS l s v m = putL l s v := by have := (putS_end (l := l) (s := s) (v := v)).1; rw [hm'.out] at this; exact this hlm
        have hownF : OwnA wr (w1.heap.size + 1) (.slice B (putL l s v).length d) (putL l s v) := by rw [← hfin]; exact hown'.out
        have hlenF : (putS l s v m).length = (putL l s v).length := by rw [hfin]
        have hbF := hb
        rw [hlenF]
        clear hown' hob hfin hlenF
        obtain ⟨p1, p2, p3, p4, p5, p6, p7, p8, hE', hres'⟩ := put_fin hN.out hr1a hz01 hB1a hbF hownF hl hk hn64 hfitP.out hbn1.out hbn2.out
        rw [← hTT1.out] at hE'
        go_wp2
        exact bodyPost_ret (v := .agg #[.slice (some ⟨g, 0, none⟩) n c4]) (by simp [results, Try.results74, go_sem, hres'.out]) rfl hE'.out
      · have hd1 : decide (lowA l s < m) = false := by simp; omega
        have hfin : putS l s v m ++ [(s, v)] = putL l s v := by have := (putS_end (l := l) (s := s) (v := v)).2; rw [hm'.out] at this; exact this (by omega)
        have hlenF : (putS l s v m).length + 1 = (putL l s v).length := by rw [← hfin]; simp
        have hlenF' := hide hlenF
        have hfin' := hide hfin
        clear hlenF hfin
        go_wp2_with (at_builtin; refine wpList_pushA rfl (.tmp 60) (.tmp 64) rfl hown'.out s v _ wr.heap.size rfl rfl rfl (by omega) hzr ?_; intro A2 d2 w2 hown2 hg2; rw [hlenF'.out]; obtain ⟨p1, p2, p3, p4, p5, p6, p7, p8, hE', hres'⟩ := put_fin (l' := putL l s v) (B := A2) (d := d2) (W := w2) hN.out hr1a hz01 hB1a (hg2.below (Nat.le_refl _) hb) (by rw [← hlenF'.out, ← hfin'.out]; exact hown2) hl hk hn64 hfitP.out hbn1.out hbn2.out; rw [← hTT1.out] at hE'; clear hown2 hg2)
        exact bodyPost_ret (v := .agg #[.slice (some ⟨g, 0, none⟩) n c4]) (by simp [results, Try.results74, go_sem, hres'.out]) rfl hE'.out
end Go.Proofs.Ytfiiikbbiimdiaa
