/- Document order, in plain Lean. Condition of the laws: the tree is good. -/
import Derived.Test.YtbedomopojiehaaUps
namespace Go.Proofs.Ytbedomopojiehaa

/-- An element and all that are below it, in document order (a bounded depth). -/
def pre (T : List ANode) : Nat → Int → List Int
  | 0, _ => []
  | f + 1, k => k :: (kids T k.toNat).flatMap (pre T f)
def preT (T : List ANode) (k : Int) : List Int := pre T T.length k

theorem flatMap_same {α β : Type} {l : List α} {f g : α → List β} (h : ∀ a ∈ l, f a = g a) : l.flatMap f = l.flatMap g := by
  induction l with
  | nil => rfl
  | cons a l ih => rw [List.flatMap_cons, List.flatMap_cons, h a (by simp), ih fun b hb => h b (by simp [hb])]
theorem flatMap_nodup {α β : Type} {l : List α} {f : α → List β} (h : ∀ a ∈ l, (f a).Nodup) (hp : l.Pairwise fun a b => ∀ x, x ∈ f a → x ∉ f b) : (l.flatMap f).Nodup := by
  induction l with
  | nil => simp
  | cons a l ih =>
    rw [List.flatMap_cons, List.nodup_append]
    obtain ⟨h1, h2⟩ := List.pairwise_cons.1 hp
    refine ⟨h a (by simp), ih (fun b hb => h b (by simp [hb])) h2, fun x hx y hy => ?_⟩
    obtain ⟨b, hb, hyb⟩ := List.mem_flatMap.1 hy
    rintro rfl
    exact h1 b hb x hx hyb

section
variable {T : List ANode} (hg : goodB T = true)
include hg
theorem good_kid {i : Nat} (hi : i < T.length) {c : Int} (hc : c ∈ kids T i) : ∃ k : Nat, c = (k : Int) ∧ k < T.length ∧ par T k = i := by
  have h := ((linkedB_iff T i).1 (((goodB_iff T).1 hg).2.2.1 i hi).2.2).2.2.2.2
  obtain ⟨j, hj, rfl⟩ := List.mem_iff_getElem.1 hc
  have := h j hj
  unfold kidOk at this
  rw [ix_get hj] at this
  obtain ⟨h1, h2, h3, -⟩ := this
  exact ⟨(kids T i)[j].toNat, by omega, by omega, h3⟩
theorem kids_nodup {i : Nat} (hi : i < T.length) : (kids T i).Nodup := by
  have h := ((linkedB_iff T i).1 (((goodB_iff T).1 hg).2.2.1 i hi).2.2).2.2.2.2
  refine List.pairwise_iff_getElem.2 fun a b ha hb hab he => ?_
  have := (h b hb).2.2.2
  rw [ix_get hb] at this
  apply this
  rw [← he, List.mem_take_iff_getElem]
  exact ⟨a, by omega, rfl⟩
theorem par_kid {x : Nat} (hx : x < T.length) (hp : 0 ≤ par T x) : (x : Int) ∈ kids T (par T x).toNat :=
  ((linkedB_iff T x).1 (((goodB_iff T).1 hg).2.2.1 x hx).2.2).2.2.2.1 hp
theorem kid_anc {i : Nat} {k : Nat} (hk : k < T.length) (hp : par T k = i) : anc T k = (k : Int) :: anc T i := by rw [anc_cons hg hk, hp]
theorem anc_self_mem {i : Nat} (hi : i < T.length) : (i : Int) ∈ anc T i := by rw [anc_cons hg hi]; simp
theorem anc_trans {x y : Nat} (hx : x < T.length) (h : (y : Int) ∈ anc T x) {z : Int} (hz : z ∈ anc T y) : z ∈ anc T x := by
  generalize hm : (anc T (x : Int)).length = m
  induction m using Nat.strongRecOn generalizing x with
  | _ m ih =>
    have h0 := h
    rw [anc_cons hg hx] at h
    rcases List.mem_cons.1 h with h | h
    · have : y = x := by omega
      subst this; exact hz
    · rcases Int.lt_or_le (par T x) 0 with hp | hp
      · rw [anc_neg hp] at h; simp at h
      · obtain ⟨p, hp'⟩ := Int.eq_ofNat_of_zero_le hp
        have hl := anc_len_lt hg hx
        have hpl := (good_par hg hx).2
        rw [hp'] at h hl hpl
        rw [anc_cons hg hx, hp']
        exact List.mem_cons_of_mem _ (ih _ (by omega) (by omega : p < T.length) h rfl)
theorem anc_same {x y z : Nat} (hx : x < T.length) (hy : (y : Int) ∈ anc T x) (hz : (z : Int) ∈ anc T x) (he : (anc T y).length = (anc T z).length) : y = z := by
  generalize hm : (anc T (x : Int)).length = m
  induction m using Nat.strongRecOn generalizing x with
  | _ m ih =>
    rcases Int.lt_or_le (par T x) 0 with hp | hp
    · rw [anc_cons hg hx, anc_neg hp] at hy hz
      simp at hy hz; omega
    · obtain ⟨p, hp'⟩ := Int.eq_ofNat_of_zero_le hp
      have hl := anc_len_lt hg hx
      have hpl := (good_par hg hx).2
      rw [hp'] at hl hpl
      have hpn : p < T.length := by omega
      rw [anc_cons hg hx, hp'] at hy hz
      rcases List.mem_cons.1 hy with hy | hy <;> rcases List.mem_cons.1 hz with hz | hz
      · omega
      · have := anc_sub hg hpn hz
        have : y = x := by omega
        subst this; omega
      · have := anc_sub hg hpn hy
        have : z = x := by omega
        subst this; omega
      · exact ih _ (by omega) hpn hy hz rfl
theorem anc_pos {i : Nat} (hi : i < T.length) : 1 ≤ (anc T i).length := by rw [anc_cons hg hi]; simp

theorem pre_stable (f g : Nat) {k : Nat} (hk : k < T.length) (hf : T.length + 1 ≤ f + (anc T k).length) (hg' : T.length + 1 ≤ g + (anc T k).length) : pre T f k = pre T g k := by
  induction f generalizing g k with
  | zero => have := anc_le hg (x := (k : Int)) (by omega); omega
  | succ f ih =>
    cases g with
    | zero => have := anc_le hg (x := (k : Int)) (by omega); omega
    | succ g =>
      simp only [pre, Int.toNat_natCast]
      congr 1
      refine flatMap_same fun c hc => ?_
      obtain ⟨j, rfl, hj, hp⟩ := good_kid hg hk hc
      have := kid_anc hg hj hp
      exact ih g hj (by rw [this]; simp; omega) (by rw [this]; simp; omega)
theorem pre_preT (f : Nat) {k : Nat} (hk : k < T.length) (hf : T.length + 1 ≤ f + (anc T k).length) : pre T f k = preT T k :=
  pre_stable hg _ _ hk hf (by have := anc_pos hg hk; omega)
theorem preT_cons {k : Nat} (hk : k < T.length) : preT T k = (k : Int) :: (kids T k).flatMap (preT T) := by
  rw [← pre_preT hg (T.length + 1) hk (by omega)]
  simp only [pre, Int.toNat_natCast]
  rfl
theorem pre_mem (f : Nat) {k : Nat} (hk : k < T.length) {x : Int} (h : x ∈ pre T f k) : ∃ y : Nat, x = (y : Int) ∧ y < T.length ∧ (k : Int) ∈ anc T y := by
  induction f generalizing k with
  | zero => simp [pre] at h
  | succ f ih =>
    simp only [pre, Int.toNat_natCast] at h
    rcases List.mem_cons.1 h with rfl | h
    · exact ⟨k, rfl, hk, anc_self_mem hg hk⟩
    · obtain ⟨c, hc, hx⟩ := List.mem_flatMap.1 h
      obtain ⟨j, rfl, hj, hp⟩ := good_kid hg hk hc
      obtain ⟨y, rfl, hy, ha⟩ := ih hj hx
      refine ⟨y, rfl, hy, anc_trans hg hy ha ?_⟩
      rw [kid_anc hg hj hp]
      exact List.mem_cons_of_mem _ (anc_self_mem hg hk)
theorem pre_nodup (f : Nat) {k : Nat} (hk : k < T.length) : (pre T f k).Nodup := by
  induction f generalizing k with
  | zero => simp [pre]
  | succ f ih =>
    simp only [pre, Int.toNat_natCast]
    refine List.nodup_cons.2 ⟨fun h => ?_, ?_⟩
    · obtain ⟨c, hc, hx⟩ := List.mem_flatMap.1 h
      obtain ⟨j, rfl, hj, hp⟩ := good_kid hg hk hc
      obtain ⟨y, hye, hy, ha⟩ := pre_mem hg f hj hx
      have : y = k := by omega
      subst this
      have h1 := anc_sub hg hy ha
      rw [kid_anc hg hj hp, List.length_cons] at h1
      omega
    · refine flatMap_nodup (fun c hc => ?_) ?_
      · obtain ⟨j, rfl, hj, hp⟩ := good_kid hg hk hc
        exact ih hj
      · refine List.Pairwise.imp_of_mem ?_ (kids_nodup hg hk)
        rintro a b ha hb hne x hxa hxb
        obtain ⟨i, rfl, hi, hpi⟩ := good_kid hg hk ha
        obtain ⟨j, rfl, hj, hpj⟩ := good_kid hg hk hb
        obtain ⟨y, rfl, hy, h1⟩ := pre_mem hg f hi hxa
        obtain ⟨z, hz, hz', h2⟩ := pre_mem hg f hj hxb
        have : z = y := by omega
        subst this
        have := anc_same hg hy h1 h2 (by rw [kid_anc hg hi hpi, kid_anc hg hj hpj]; simp)
        exact hne (by omega)
theorem preT_step {k x y : Nat} (hk : k < T.length) (h : (x : Int) ∈ preT T k) (hy : (y : Int) ∈ kids T x) : (y : Int) ∈ preT T k := by
  generalize hm : T.length - (anc T (k : Int)).length = m
  induction m using Nat.strongRecOn generalizing k with
  | _ m ih =>
    rw [preT_cons hg hk] at h ⊢
    rcases List.mem_cons.1 h with h | h
    · have : x = k := by omega
      subst this
      refine List.mem_cons_of_mem _ (List.mem_flatMap.2 ⟨y, hy, ?_⟩)
      obtain ⟨j, hj', hj, hp⟩ := good_kid hg hk hy
      rw [hj', preT_cons hg hj]; simp
    · obtain ⟨c, hc, hxc⟩ := List.mem_flatMap.1 h
      obtain ⟨j, rfl, hj, hp⟩ := good_kid hg hk hc
      refine List.mem_cons_of_mem _ (List.mem_flatMap.2 ⟨_, hc, ih (T.length - (anc T (j : Int)).length) ?_ hj hxc rfl⟩)
      have h1 := kid_anc hg hj hp
      have h2 := anc_le hg (x := (j : Int)) (by omega)
      rw [h1] at h2 ⊢
      simp at h2 ⊢; omega
theorem mem_preT {k x : Nat} (hk : k < T.length) (hx : x < T.length) : (x : Int) ∈ preT T k ↔ (k : Int) ∈ anc T x := by
  constructor
  · intro h
    obtain ⟨y, hy, -, h2⟩ := pre_mem hg _ hk h
    have : y = x := by omega
    subst this; exact h2
  · intro h
    generalize hm : (anc T (x : Int)).length = m
    induction m using Nat.strongRecOn generalizing x with
    | _ m ih =>
      have h0 := h
      rw [anc_cons hg hx] at h
      rcases List.mem_cons.1 h with h | h
      · have : k = x := by omega
        subst this
        rw [preT_cons hg hk]; simp
      · rcases Int.lt_or_le (par T x) 0 with hp | hp
        · rw [anc_neg hp] at h; simp at h
        · have hpk := par_kid hg hx hp
          obtain ⟨p, hp'⟩ := Int.eq_ofNat_of_zero_le hp
          have hl := anc_len_lt hg hx
          have hpl := (good_par hg hx).2
          rw [hp'] at h hl hpl hpk
          exact preT_step hg hk (ih _ (by omega) (by omega) h rfl) (by simpa using hpk)
theorem preT_nodup {k : Nat} (hk : k < T.length) : (preT T k).Nodup := pre_nodup hg _ hk
theorem preT_len {k : Nat} (hk : k < T.length) : (preT T k).length ≤ T.length :=
  nodup_range_le _ _ (preT_nodup hg hk) fun _ hy => by obtain ⟨y, rfl, h, -⟩ := pre_mem hg _ hk hy; omega
end
end Go.Proofs.Ytbedomopojiehaa
