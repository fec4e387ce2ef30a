/- Plain laws: a good tree in which an attribute has been set. No condition but those of the laws. -/
import Derived.Test.YtfiiikbbiimdiaaPla
namespace Go.Proofs.Ytfiiikbbiimdiaa
open Go.RowKit

/-- What the law says of the tree with the attribute. -/
structure Got (T X : List ANode) (k : Nat) (m : Int) (s v o : ByteArray) (n : Nat) : Prop where
  set : setE T k s v = 0
  tree : setT T k s v = X
  good : chk X = 0
  len : X.length = n
  gotE : getE X k s = 0
  gotV : getV X k s = v
  otherE : ¬ ((k : Int) = m ∧ s = o) → getE X m o = getE T m o
  otherV : ¬ ((k : Int) = m ∧ s = o) → getV X m o = getV T m o
  againE : setE X k s v = 0
  again : setT X k s v = X
  same : getE T k s = 0 → getV T k s = v → X = T

theorem got_of {T : List ANode} {k n : Nat} {m : Int} {s v o : ByteArray} (hg : goodB T = true) (hk : k < T.length) (hl : T.length = n) (hm : askI T [m] = 0) (hs : namedB s = true) (hv : v.size ≤ 400) (h0 : setE T k s v = 0) : ∃ X, Got T X k m s v o n := by
  have hask : askI T [(k : Int)] = 0 := askI_ok hg (by simp; omega)
  have h16 : hasA (atl T k) s = false → (atl T k).length < 16 := fun hh => by
    unfold setE at h0
    rw [if_pos hask, if_pos hs, if_neg (by omega), Int.toNat_natCast] at h0
    have := (good_attrs hg hk).2
    split at h0
    · cases h0
    · rename_i h; rcases Nat.lt_or_ge (atl T k).length 16 with h1 | h1
      · exact h1
      · exact absurd ⟨hh, by omega⟩ h
  obtain ⟨u1, u2, u3, u4, u5, u6, u7⟩ := put_facts (good_atl hg hk) hs hv h16
  have hX : setT T k s v = setA T k (putL (atl T k) s v) := by unfold setT; rw [if_pos h0, Int.toNat_natCast]
  have hask1 : ∀ x, askI (setA T k (putL (atl T k) s v)) x = askI T x := askI_setA hg hk u1
  have hatl : atl (setA T k (putL (atl T k) s v)) k = putL (atl T k) s v := by rw [atl_setA hk, if_pos rfl]
  have hgE : getE (setA T k (putL (atl T k) s v)) k s = 0 := by unfold getE; rw [hask1, if_pos hask, Int.toNat_natCast, hatl, u2]; rfl
  have hoth : ¬ ((k : Int) = m ∧ s = o) → hasA (atl (setA T k (putL (atl T k) s v)) m.toNat) o = hasA (atl T m.toNat) o ∧ (hasA (atl T m.toNat) o = true → vl (atl (setA T k (putL (atl T k) s v)) m.toNat) (lowA (atl (setA T k (putL (atl T k) s v)) m.toNat) o) = vl (atl T m.toNat) (lowA (atl T m.toNat) o)) := fun hne => by
    rw [atl_setA hk]
    by_cases hkm : m.toNat = k
    · rw [if_pos hkm, hkm]
      have hmm := (askI_zero.1 hm).2 m (by simp)
      exact has_same (good_atl hg hk) u1 o (u5 o (fun e => hne ⟨by omega, e.symm⟩))
    · rw [if_neg hkm]; exact ⟨rfl, fun _ => rfl⟩
  have hoE : ¬ ((k : Int) = m ∧ s = o) → getE (setA T k (putL (atl T k) s v)) m o = getE T m o := fun hne => by
    unfold getE; rw [hask1, (hoth hne).1]
  refine ⟨_, h0, hX, chk_ok (good_setA hg hk u1), by rw [setA_len]; exact hl, hgE, ?_, hoE, fun hne => ?_, ?_, ?_, fun h1 h2 => ?_⟩
  · unfold getV; rw [if_pos hgE, Int.toNat_natCast, hatl, u3]
  · unfold getV
    rw [hoE hne]
    by_cases hz : getE T m o = 0
    · rw [if_pos hz, if_pos hz]; exact (hoth hne).2 (getE_zero.1 hz).2
    · rw [if_neg hz, if_neg hz]
  · unfold setE; rw [hask1, if_pos hask, if_pos hs, if_neg (by omega), if_neg]
    rw [Int.toNat_natCast, hatl, u2]; simp
  · have hz : setE (setA T k (putL (atl T k) s v)) k s v = 0 := by
      unfold setE; rw [hask1, if_pos hask, if_pos hs, if_neg (by omega), if_neg]
      rw [Int.toNat_natCast, hatl, u2]; simp
    unfold setT
    rw [if_pos hz, Int.toNat_natCast, setA_setA hk, hatl, u4]
  · obtain ⟨-, h4⟩ := getE_zero.1 h1
    rw [Int.toNat_natCast] at h4
    unfold getV at h2
    rw [if_pos h1, Int.toNat_natCast] at h2
    rw [u6 h4 h2, setA_self hk]

end Go.Proofs.Ytfiiikbbiimdiaa
