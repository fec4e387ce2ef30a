/- Walks: all links, by the program; values of attributes, links, nearest links, all links, by the reference. No condition but those of the inner functions. -/
import Derived.Test.YtbedomopojiehaaAd
namespace Go.Proofs.Ytbedomopojiehaa
open Go.RowKit

theorem filt_succ (p : Int → Bool) (l : List Int) {k : Nat} (hk : k < l.length) : (l.take (k + 1)).filter p = (l.take k).filter p ++ (if p (ix l k) = true then [ix l k] else []) := by
  rw [take_snoc' l k hk, ← ix_get hk, List.filter_append]
  congr 1
  by_cases hb : p (ix l k) = true
  · rw [if_pos hb, List.filter_cons, if_pos hb]; rfl
  · rw [if_neg hb, List.filter_cons, if_neg hb]; rfl

set_option maxRecDepth 100000 in
set_option maxHeartbeats 1000000 in
theorem rgot_ok (A : Option Addr) (n c : Nat) (T : List ANode) (i : Nat) (s : ByteArray) (w : World) (h : IsTree w A n T) (hi : i < n) (hg : goodB T = true) :
    Calls Try.prog 92 #[.agg #[.slice A n c], .int .i64 i, .string s] w fun e w' => e = .returned (.tuple #[.string (getV T i s), .bool (hasA (atl T i) s)]) ∧ Below w.heap.size w w' := by
  have ho := hide h.2.2.2
  have hT := hide h
  have hl := h.1
  clear h
  have hB0 := below_alloc (Below.refl w.heap.size w) (.cells #[.slice A n c] 43)
  have hbox0 : (w.alloc (.cells #[.slice A n c] 43)).cell? ⟨w.heap.size, 0, none⟩ = some (.slice A n c) := by go_simp
  have q1 : askI T [(i : Int)] = 0 := askI_ok hg (by simp; omega)
  have he : getE T i s = if hasA (atl T i) s = true then 0 else 6 := by unfold getE; rw [if_pos q1, Int.toNat_natCast]
  have hv : getV T i s = if getE T i s = 0 then vl (atl T i) (lowA (atl T i) s) else .empty := by unfold getV; rw [Int.toNat_natCast]
  obtain ⟨b, off, aA, cA, aC, cC, rfl, hbl, -, c1, -, -, hA, -⟩ := ho.out (by omega)
  have c1' := hide (c1 i hi)
  have hA' := hide (hA i hi).1
  change Hid (w.cell? ⟨b, off + i * 4 + 1, none⟩ = some (Value.slice (aA i) (atl T i).length (aC i))) at c1'
  change Hid (IsAttrs w (aA i) (atl T i).length (atl T i)) at hA'
  generalize aA i = AA at c1' hA'
  generalize aC i = ac at c1'
  have hg' := hide hg
  obtain ⟨hs, h16⟩ := good_attrs hg (by omega : i < T.length)
  clear c1 hA ho hg q1
  cases hh : hasA (atl T i) s
  · have hr : Hid (getV T i s = .empty) := by show _ = _; rw [hv, he, hh]; rfl
    have hav : Hid (atV (atl T i) s = -1) := by show _ = _; unfold atV; rw [hh]; rfl
    clear he hv hs hh
    go_enter Try.func92, Try.ntmps92
    go_wp2_with fail
    refine (rattr_ok _ _ _ T i s _ (hT.out.below hB0) hi hg'.out).mono ?_
    rw [hav.out]
    rintro e w1 ⟨rfl, hb1⟩
    go_wp2
    go_ret2
    exact ⟨ret_sb hr.out.symm rfl, Below.on hB0 hb1⟩
  · have hr : Hid (getV T i s = vl (atl T i) (lowA (atl T i) s)) := by show _ = _; rw [hv, he, hh]; rfl
    have hav : Hid (atV (atl T i) s = (lowA (atl T i) s : Int)) := by show _ = _; unfold atV; rw [hh]; rfl
    have hat : lowA (atl T i) s < (atl T i).length := by unfold hasA at hh; simp at hh; exact hh.1
    generalize lowA (atl T i) s = p at *
    obtain ⟨ba, oa, rfl, hba, ca0, ca1⟩ := hA'.out.2.2.2 (by omega)
    have ca1' := hide (ca1 p hat)
    clear he hv hs hh ca0 ca1
    go_enter Try.func92, Try.ntmps92
    go_wp2_with fail
    refine (rattr_ok _ _ _ T i s _ (hT.out.below hB0) hi hg'.out).mono ?_
    rw [hav.out]
    rintro e w1 ⟨rfl, hb1⟩
    have hB1 := Below.on hB0 hb1
    have hbox1 := cell_later hb1 hbox0
    have g1 := (old hB1 _ _ hbl).trans c1'.out
    have g2 := (old hB1 _ _ hba).trans ca1'.out
    go_wp2
    go_ret2
    exact ⟨ret_sb hr.out.symm rfl, hB1⟩
end Go.Proofs.Ytbedomopojiehaa
