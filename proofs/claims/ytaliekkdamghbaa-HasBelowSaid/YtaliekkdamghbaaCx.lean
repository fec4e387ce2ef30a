/- Walks: the nearest way to an element, by the program. Condition: what is told is not great. -/
import Derived.Test.YtaliekkdamghbaaCs
import Derived.Test.YtaliekkdamghbaaOe
import Derived.Deep.RegionHeld3
namespace Go.Proofs.Ytaliekkdamghbaa
open Go.RowKit

/-- The element from which the nearest way comes. -/
def stepF (T : List ANode) (cs : List Int) (H : List (List Bool)) (k i : Nat) : Int := ix (prtF T i (ix cs k)) ((prtF T i (ix cs k)).findIdx (hitB (rchL T cs H k)))
def wayF (T : List ANode) (cs : List Int) (H : List (List Bool)) : Nat → Nat → List Int
  | 0, i => [(i : Int)]
  | k + 1, i => wayF T cs H k (stepF T cs H k i).toNat ++ [(i : Int)]
theorem step_ok {T : List ANode} (hg : goodB T = true) {cs : List Int} {H : List (List Bool)} {k i : Nat} (hi : i < T.length) (h : rchF T cs H (k + 1) i = true) :
    ∃ p j : Nat, stepF T cs H k i = p ∧ p < T.length ∧ rchF T cs H k p = true ∧ fstB (rchL T cs H k) (prtF T i (ix cs k)) = j ∧ j < (prtF T i (ix cs k)).length ∧ ix (prtF T i (ix cs k)) j = p := by
  have hr := prt_range hg hi (ix cs k)
  rw [rch_step hg _ _ _ hi, Bool.and_eq_true] at h
  have h2 := h.2
  unfold stepF
  generalize prtF T i (ix cs k) = l at *
  rw [List.any_eq_true] at h2
  have hlt := List.findIdx_lt_length.2 h2
  have hh := List.findIdx_getElem (w := hlt)
  have hm := hr _ (ix_mem hlt)
  rw [← ix_get hlt] at hh
  obtain ⟨p, hp⟩ := Int.eq_ofNat_of_zero_le hm.1
  refine ⟨p, l.findIdx (hitB (rchL T cs H k)), hp, by omega, ?_, by unfold fstB; rw [if_pos hlt], hlt, hp⟩
  rw [hp] at hh
  unfold hitB at hh
  rw [Int.toNat_natCast, rchL_bx _ _ _ _ (by omega)] at hh
  exact hh
theorem wayF_succ {T : List ANode} {cs : List Int} {H : List (List Bool)} {k i p : Nat} (h : stepF T cs H k i = p) : wayF T cs H (k + 1) i = wayF T cs H k p ++ [(i : Int)] := by
  show wayF T cs H k (stepF T cs H k i).toNat ++ [(i : Int)] = _
  rw [h, Int.toNat_natCast]
theorem wayF_len (T : List ANode) (cs : List Int) (H : List (List Bool)) (k i : Nat) : (wayF T cs H k i).length = k + 1 := by
  induction k generalizing i with
  | zero => rfl
  | succ k ih => show (wayF T cs H k _ ++ [(i : Int)]).length = _; rw [List.length_append, ih]; rfl
theorem Taken.below {w w' : World} {po pk k : Nat} {B : List Bool} (h : Taken w po pk k B) (hb : Below w.heap.size w w') : Taken w' po pk k B := by
  obtain ⟨hk, g, off, m, c, R, rl, rc, h1, h2, h3, h4, h5⟩ := h
  exact ⟨cell_later hb hk, g, off, m, c, R, rl, rc, cell_later hb h1, h2, h3, cell_later hb h4, h5.below hb⟩
/-- What Ways answers. -/
def wayE (T : List ANode) (i : Int) (cs : List Int) (H : List (List Bool)) : Int := if cask T i cs H = 0 then (if rchF T cs H cs.length i.toNat = true then 0 else 6) else cask T i cs H
def wayL (T : List ANode) (i : Int) (cs : List Int) (H : List (List Bool)) : List Int := if wayE T i cs H = 0 then wayF T cs H cs.length i.toNat else []

set_option maxRecDepth 100000 in
set_option maxHeartbeats 2000000 in
theorem cways_yes (A B C : Option Addr) (n c m d e : Nat) (T : List ANode) (j : Nat) (cs : List Int) (H : List (List Bool)) (w : World) (h : IsTree w A n T) (hcs : IsU8 w B m cs) (hH : IsBB w C (m + 1) H) (h0 : cask T j cs H = 0) (hj : j < n) (hr : rchF T cs H m j = true) :
    Calls Try.prog 24 #[.agg #[.slice A n c], .int .i64 j, .slice B m d, .slice C (m + 1) e] w (MadeIntsE w (wayF T cs H m j) 0) := by
  have hcs' := hide hcs
  have hH' := hide hH
  have hml := hcs.1
  have hkl := hH.1
  clear hcs hH
  have hT := hide h
  have hl := h.1
  clear h
  have hB0 := below_alloc (Below.refl w.heap.size w) (.cells #[.slice A n c] 24)
  have hbox0 : (w.alloc (.cells #[.slice A n c] 24)).cell? ⟨w.heap.size, 0, none⟩ = some (.slice A n c) := by go_simp
  obtain ⟨hg, hir, ht⟩ := cask_zero.1 h0
  obtain ⟨ht1, ht2⟩ := told_len ht
  have hwl := wayF_len T cs H m j
  have h0' := hide h0
  have hg' := hide hg
  have ht' := hide ht
  have hr' := hide hr
  have hy4 := hide ((toldB_iff _ _ _).1 ht).2.2.2.1
  have hrr := hide (rchR_row T cs H (k := m) (by omega))
  have hrl := hide (rchL_len T cs H m)
  have hbx := hide (rchL_bx T cs H m (i := j) (by omega))
  have hrows := hide (fun k (hk : k ≤ m) => rchR_row T cs H (k := k) (by omega))
  have hlens := hide (fun k => rchL_len T cs H k)
  have hall := hide (fun j (hj : j < m + 1) => by rw [rchR_row T cs H (k := j) (by omega), rchL_len] : ∀ j, j < m + 1 → (rowB (rchR T cs H) j).length = T.length)
  have hn64 : T.length ≤ 64 := ((goodB_iff T).1 hg).2.1
  obtain ⟨WY, hWY⟩ : ∃ l, wayF T cs H m j = l := ⟨_, rfl⟩
  rw [hWY] at hwl ⊢
  have hWY' := hide hWY
  have hwl' := hide hwl
  clear h0 hg ht hir hr hWY hwl
  go_enter Try.func24, Try.ntmps24
  go_wp2_with fail
  have hx := ccheck1_ok _ _ _ _ c _ d _ e T j cs H _ (hT.out.below hB0) (hcs'.out.below hB0) (hH'.out.below hB0)
  rw [h0'.out] at hx
  refine hx.mono ?_
  clear hx
  rintro e1 w1 ⟨rfl, hb1⟩
  have hbox1 := cell_later hb1 hbox0
  have hB1 := Below.on hB0 hb1
  go_wp2_with fail
  refine (reached_ok _ _ _ _ c _ d e T cs H _ (hT.out.below hB1) (hcs'.out.below hB1) (hH'.out.below hB1) hg'.out ht'.out).mono ?_
  rintro e2 w2 ⟨A2, c2, rfl, hO2, hb2⟩
  obtain ⟨g0, cap, hv, o1, o2, o3, o4, hor⟩ := hO2.open (by omega) (fun j hj => by rw [hall.out j hj]; omega)
  injection hv with v1 v2 v3
  subst v1 v3
  have hor' := hide hor
  obtain ⟨RA, RC, r1, r2, r3, r4⟩ := hor m (by omega)
  rw [hrr.out, hrl.out, hl] at r1 r2 r3
  rw [Nat.zero_add] at r1
  obtain ⟨-, -, hro⟩ := r2
  obtain ⟨rb, ro, rfl, hrb, hrc⟩ := hro (by omega)
  have gj := hrc j hj
  rw [hbx.out, hr'.out] at gj
  have hB2 := Below.on hB1 hb2
  have hbox2 := cell_later hb2 hbox1
  have o2' : c2 ≤ 9223372036854775807 := by unfold maxLen at o2; omega
  have hws : w.heap.size < w2.heap.size := cell_in hbox2
  have hz := below_alloc (Below.refl w2.heap.size w2) (.cells #[.slice (some ⟨g0, 0, none⟩) (m + 1) c2] 26)
  have hall3 : (w2.alloc (.cells #[.slice (some ⟨g0, 0, none⟩) (m + 1) c2] 26)).cell? ⟨w2.heap.size, 0, none⟩ = some (.slice (some ⟨g0, 0, none⟩) (m + 1) c2) := by go_simp
  have hbox3 := cell_later hz hbox2
  have hB3 := Below.on hB2 hz
  have hs3 : (w2.alloc (.cells #[.slice (some ⟨g0, 0, none⟩) (m + 1) c2] 26)).heap.size = w2.heap.size + 1 := by simp
  have hls : Below (w2.alloc (.cells #[.slice (some ⟨g0, 0, none⟩) (m + 1) c2] 26)).heap.size (w2.alloc (.cells #[.slice (some ⟨g0, 0, none⟩) (m + 1) c2] 26)) (((w2.alloc (.cells #[.slice (some ⟨g0, 0, none⟩) (m + 1) c2] 26)).alloc (.cells #[.int .i64 j] 3)).alloc (.cells #[.int .i64 ((m : Int) - 1)] 3)) := below_alloc (below_alloc (Below.refl _ _) _) _
  have hls' := hide hls
  obtain ⟨U, hU⟩ : ∃ U, U = w2.alloc (.cells #[.slice (some ⟨g0, 0, none⟩) (m + 1) c2] 26) := ⟨_, rfl⟩
  rw [← hU] at hz hall3 hbox3 hB3 hs3
  have hU' := hide hU
  have hz' := hide hz
  have hs3' := hide hs3
  clear hor hO2 v2 hrc hro hz hb1 hb2 hU hls hs3
  go_wp2
  go_loopw [1, 12, 13] (fun i v p wr => ∃ (q j' g : Nat) (pre : List Int), q ≤ m ∧ i = .int .i64 j' ∧ j' < n ∧ rchF T cs H q j' = true ∧ p = .pointer (some ⟨g, 0, none⟩) ∧ w2.heap.size < g ∧ wr.heap[g]? = some (.cells #[.int .i64 ((q : Int) - 1)] 3 (0, 0)) ∧ OwnI wr (w2.heap.size + 1) v (pre ++ [(j' : Int)]) ∧ v.ownBlock ≠ some g ∧ Hid (WY = wayF T cs H q j' ++ pre.reverse) ∧ Below U.heap.size U wr) (fun _ v _ _ => m + 1 - lenV v)
  case atStart => exact ⟨m, j, w2.heap.size + 1 + 1, [], Nat.le_refl _, rfl, hj, hr'.out, by simp, by omega, blk_at _ _ _ _ (by simp), OwnI.alloc (OwnI.lit _ _ _ _ (by simp) (by simp)) _, by simp [Value.ownBlock], by show _ = _; rw [← hWY'.out]; simp, by rw [hU'.out]; exact hls'.out⟩
  case round =>
    obtain ⟨q, j', g, pre, hq, rfl, hj', hrq, rfl, hgw, hgb, hown, hap, hwy, hb⟩ := hrel
    have hpl : pre.length + q = m := by have h1 := congrArg List.length hwy.out; rw [hwl'.out, List.length_append, wayF_len, List.length_reverse] at h1; omega
    have hcg : wr.cell? ⟨g, 0, none⟩ = some (.int .i64 ((q : Int) - 1)) := by rw [blk_cell hgb]; rfl
    have hgl := blk_lt hgb
    have hlv := hide hown.lenV
    have hBw := Below.on hB3 hb
    have hB2w := hide (Below.on hz'.out hb)
    have hrq' := hide hrq
    clear hrq
    have hsz : w2.heap.size + 1 ≤ wr.heap.size := by have := hb.size; have := hs3'.out; omega
    rcases Nat.eq_zero_or_pos q with rfl | hq0
    · have he : Hid ((pre ++ [(j' : Int)]).reverse = WY) := by show _ = _; rw [hwy.out]; simp [wayF]
      have e1 : (((0 : Nat) : Int) - 1) = -1 := rfl
      rw [e1] at hcg
      obtain ⟨Z, hZ⟩ : ∃ Z, pre ++ [(j' : Int)] = Z := ⟨_, rfl⟩
      have hZl : Z.length = pre.length + 1 := by rw [← hZ, List.length_append]; rfl
      rw [hZ] at hown he
      obtain ⟨Av, cv, rfl, -, -⟩ := sl_of_own hown
      have hown' := hide hown
      have hBw' := hide hBw
      have hZl' := hide hZl
      clear hown hgb e1 hBw hap hZ hZl
      go_wp2_with fail
      refine (rev_ok Av Z.length cv _ Z _ hown'.out (by rw [hZl'.out]; omega)).mono ?_
      rintro e8 w8 ⟨rfl, hO8, hg8⟩
      rw [he.out] at hO8
      have hll : Hid (Z.length = WY.length) := by show _ = _; rw [← he.out, List.length_reverse]
      rw [hll.out] at hO8 hown' ⊢
      obtain ⟨A9, c9, hv9, h91, h92, hI9⟩ := isInts_of_own hO8 (by rw [hwl'.out]; omega)
      injection hv9 with v1 v2 v3
      subst v1 v3
      have hb8 := hide (hBw'.out.grown hg8 (by have := hBw'.out.size; omega) (fun q hq => by have := (World.ownsRow.lt hown'.out q ((ownBlock_slice _ _ _).trans hq)).1; omega))
      have hI9' := hide hI9
      clear hI9 hO8 hg8 v2
      go_wp2
      go_ret2
      exact ⟨Av, cv, rfl, hI9'.out, h91, h92, hb8.out⟩
    · obtain ⟨p, rfl⟩ : ∃ p, q = p + 1 := ⟨q - 1, by omega⟩
      have ep : ((p + 1 : Nat) : Int) - 1 = (p : Int) := by omega
      rw [ep] at hgb hcg
      obtain ⟨pp, jj, hstep, hppl, hrp, hfst, hjl, hix⟩ := step_ok hg'.out (by omega) hrq'.out
      have hwy2 : Hid (WY = wayF T cs H p pp ++ (pre ++ [(j' : Int)]).reverse) := by show _ = _; rw [hwy.out, wayF_succ hstep]; simp
      have hprange := prt_range hg'.out (i := j') (by omega) (ix cs p)
      obtain ⟨bc, oc, rfl, hbc, hck⟩ := hcs'.out.2.2.2 (by omega)
      have gy := (old hBw _ _ hbc).trans (hck p (by omega))
      have hy := hy4.out p (by omega)
      obtain ⟨RA, RC, s1, s2, s3, s4⟩ := hor'.out p (by omega)
      rw [hrows.out p (by omega), hlens.out p, hl] at s1 s2
      obtain ⟨y, hye⟩ : ∃ y, ix cs p = y := ⟨_, rfl⟩
      rw [hye] at gy hy hprange hfst hjl hix
      have hpa := hide (partners_ok A n c T j' y wr.drew (hT.out.below (show Below w.heap.size w wr.drew from hBw.drew)) hg'.out hj' hy.1 hy.2)
      obtain ⟨L, hL⟩ : ∃ L, prtF T j' y = L := ⟨_, rfl⟩
      rw [hL] at hpa hprange hfst hjl hix
      have hall' := cell_later hb hall3
      have hboxw := cell_later hb hbox3
      have hTk : Hid (Taken wr w2.heap.size g p (rchL T cs H p)) := ⟨hcg, g0, 0, m + 1, c2, RA, n, RC, hall', by omega, by omega, cell_later hB2w.out s1, s2.below hB2w.out⟩
      have hfst' := hide hfst
      have hix' := hide hix
      have hpr' := hide hprange
      have hown' := hide hown
      have hgb' := hide hgb
      have hap' := hide hap
      have hx0 : (0 : Int) ≤ (p : Int) := by omega
      have hx1 : (p : Int) < (m : Int) := by omega
      clear hck hye hL hfst hix hprange hown hgb hstep ep s1 s2 hap hall3 hbox3
      go_wp2
      go_region_held3 (fun X => X.cell? ⟨w.heap.size, 0, none⟩ = some (.slice A n c) ∧ X.cell? ⟨g, 0, none⟩ = some (.int .i64 p) ∧ X.cell? ⟨bc, oc + p, none⟩ = some (.int .u8 y)) (first | exact ⟨hboxw, hcg, gy⟩ | exact ⟨r0, r1, r2⟩) (first | (go_at_call 49; (with_reducible refine hpa.out.mono ?_); rintro e5 w5 ⟨A5, c5, rfl, hI5, hb5⟩; have r0 := cell_later hb5 hboxw; have r1 := cell_later hb5 hcg; have r2 := cell_later hb5 gy))
      have hz5 : Below wr.heap.size wr w5 := Below.on (w1 := wr.drew) (Below.refl _ _).drew hb5
      have hI5' := hide hI5
      have hTk5 := hide (hTk.out.below hz5)
      clear hI5 hTk hpa
      go_wp2_with fail
      refine (ways1_index A5 L.length c5 L w2.heap.size g p (rchL T cs H p) _ hI5'.out hTk5.out (fun x hx => by rw [rchL_len]; exact hpr'.out x hx)).mono ?_
      rintro e6 w6 ⟨rfl, rfl⟩
      rw [hfst'.out]
      obtain ⟨b5, o5, rfl, hb5l, hc5⟩ := hI5'.out.2.2 (by omega)
      have gx := hc5 jj hjl
      rw [hix'.out] at gx
      have hown5 := hown'.out.below hz5
      have hgb5 := hide ((hz5.block _ hgl).trans hgb'.out)
      have hB5 := hide (Below.on hb hz5)
      have hsz5 : w2.heap.size + 1 ≤ w5.heap.size := by have := hz5.size; omega
      have hg5 : g < w5.heap.size := by have := hz5.size; omega
      have hL63 : L.length ≤ 9223372036854775807 := hI5'.out.2.1
      clear hc5 hz5 hb5 hfst' hown' hgb' hTk5
      go_wp2_with (at_builtin; refine wpList_pushI rfl _ _ rfl hown5 (pp : Int) _ rfl rfl (by rw [List.length_append]; simp; omega) hsz5 ?_)
      intro A7 c7 w7 hown7 hgr
      have k7 := (hgr.2.2.2.1 g hg5 hap'.out).trans hgb5.out
      have x7 : w7.cell? ⟨g, 0, none⟩ = some (.int .i64 p) := by rw [blk_cell k7]; rfl
      have hB7 := hgr.below (by have := hs3'.out; omega) hB5.out
      have hn7 := hide (fun k hk => (World.ownsRow.lt hown7 k hk).2)
      have hown7' := hide hown7
      have hs7 : w2.heap.size < w7.heap.size := by have := hgr.lt; omega
      clear hgr hown5 hgb5 gx k7 hown7 r0 r1 r2
      go_wp2
      go_roundw
      case rel => exact ⟨p, pp, _, pre ++ [(j' : Int)], by omega, rfl, by omega, hrp, rfl, hs7, blk_at _ _ _ _ (by simp), OwnI.alloc (by simpa using hown7'.out) _, fun hk => by have := hn7.out _ hk; omega, hwy2, below_alloc hB7 _⟩
      case measure => rw [hlv.out]; simp [lenV]; omega

set_option maxRecDepth 100000 in
set_option maxHeartbeats 1000000 in
theorem cways_ok (A B C : Option Addr) (n c m d k e : Nat) (T : List ANode) (i : Int) (cs : List Int) (H : List (List Bool)) (w : World) (h : IsTree w A n T) (hcs : IsU8 w B m cs) (hH : IsBB w C k H) :
    Calls Try.prog 24 #[.agg #[.slice A n c], .int .i64 i, .slice B m d, .slice C k e] w (MadeIntsE w (wayL T i cs H) (wayE T i cs H)) := by
  by_cases h0 : cask T i cs H = 0
  · obtain ⟨hg, hir, ht⟩ := cask_zero.1 h0
    obtain ⟨ht1, ht2⟩ := told_len ht
    obtain ⟨j, rfl⟩ := Int.eq_ofNat_of_zero_le hir.1
    have hml := hcs.1
    have hkl := hH.1
    have hl := h.1
    obtain rfl : k = m + 1 := by omega
    by_cases hr : rchF T cs H m j = true
    · have e1 : wayE T j cs H = 0 := by unfold wayE; rw [if_pos h0, hml, Int.toNat_natCast, if_pos hr]
      have e2 : wayL T j cs H = wayF T cs H m j := by unfold wayL; rw [if_pos e1, hml, Int.toNat_natCast]
      rw [e1, e2]
      exact cways_yes A B C n c m d e T j cs H w h hcs hH h0 (by omega) hr
    · have e1 : wayE T j cs H = 6 := by unfold wayE; rw [if_pos h0, hml, Int.toNat_natCast, if_neg hr]
      have e2 : wayL T j cs H = [] := by unfold wayL; rw [if_neg (by rw [e1]; decide)]
      rw [e1, e2]
      have hj : j < n := by omega
      have hrf : rchF T cs H m j = false := by simpa using hr
      have hcs' := hide hcs
      have hH' := hide hH
      clear hcs hH hl
      have hT := hide h
      have hl := h.1
      clear h
      have hB0 := below_alloc (Below.refl w.heap.size w) (.cells #[.slice A n c] 24)
      have hbox0 : (w.alloc (.cells #[.slice A n c] 24)).cell? ⟨w.heap.size, 0, none⟩ = some (.slice A n c) := by go_simp
      have h0' := hide h0
      have hg' := hide hg
      have ht' := hide ht
      have hrr := hide (rchR_row T cs H (k := m) (by omega))
      have hrl := hide (rchL_len T cs H m)
      have hbx := hide (rchL_bx T cs H m (i := j) (by omega))
      have hall := hide (fun j (hj : j < m + 1) => by rw [rchR_row T cs H (k := j) (by omega), rchL_len] : ∀ j, j < m + 1 → (rowB (rchR T cs H) j).length = T.length)
      have hn64 : T.length ≤ 64 := ((goodB_iff T).1 hg).2.1
      have hrf' := hide hrf
      clear h0 hg ht hir e1 e2 hr hrf
      go_enter Try.func24, Try.ntmps24
      go_wp2_with fail
      have hx := ccheck1_ok _ _ _ _ c _ d _ e T j cs H _ (hT.out.below hB0) (hcs'.out.below hB0) (hH'.out.below hB0)
      rw [h0'.out] at hx
      refine hx.mono ?_
      clear hx
      rintro e1 w1 ⟨rfl, hb1⟩
      have hbox1 := cell_later hb1 hbox0
      have hB1 := Below.on hB0 hb1
      go_wp2_with fail
      refine (reached_ok _ _ _ _ c _ d e T cs H _ (hT.out.below hB1) (hcs'.out.below hB1) (hH'.out.below hB1) hg'.out ht'.out).mono ?_
      rintro e2 w2 ⟨A2, c2, rfl, hO2, hb2⟩
      obtain ⟨g, cap, hv, o1, o2, o3, o4, hor⟩ := hO2.open (by omega) (fun j hj => by rw [hall.out j hj]; omega)
      injection hv with v1 v2 v3
      subst v1 v3
      obtain ⟨RA, RC, r1, r2, r3, r4⟩ := hor m (by omega)
      rw [hrr.out, hrl.out, hl] at r1 r2 r3
      rw [Nat.zero_add] at r1
      obtain ⟨-, -, hro⟩ := r2
      obtain ⟨rb, ro, rfl, hrb, hrc⟩ := hro (by omega)
      have gj := hrc j hj
      rw [hbx.out, hrf'.out] at gj
      have hB2 := Below.on hB1 hb2
      have o2' : c2 ≤ 9223372036854775807 := by unfold maxLen at o2; omega
      clear hor hO2 v2 hrc hro
      go_wp2
      go_ret2
      exact madeIntsE_nil (below_alloc hB2 _)
  · have e1 : wayE T i cs H = cask T i cs H := if_neg h0
    have e2 : wayL T i cs H = [] := by unfold wayL; rw [if_neg (by rw [e1]; exact h0)]
    rw [e1, e2]
    have hcs' := hide hcs
    have hH' := hide hH
    have h0' : (cask T i cs H != 0) = true := by simp [h0]
    clear hcs hH h0 e1 e2
    have hT := hide h
    have hl := h.1
    clear h
    have hB0 := below_alloc (Below.refl w.heap.size w) (.cells #[.slice A n c] 24)
    have hbox0 : (w.alloc (.cells #[.slice A n c] 24)).cell? ⟨w.heap.size, 0, none⟩ = some (.slice A n c) := by go_simp
    go_enter Try.func24, Try.ntmps24
    go_wp2_with fail
    refine (ccheck1_ok _ _ _ _ _ _ _ _ _ T _ cs H _ (hT.out.below hB0) (hcs'.out.below hB0) (hH'.out.below hB0)).mono ?_
    rintro e w1 ⟨rfl, hb1⟩
    have hbox1 := cell_later hb1 hbox0
    have hB1 := Below.on hB0 hb1
    go_wp2
    go_ret2
    exact madeIntsE_nil hB1
end Go.Proofs.Ytaliekkdamghbaa
