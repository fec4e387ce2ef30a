/- Walks: spaces, by the program and by the reference. No condition. -/
import Derived.Test.YtljloicgjgbplaaGreatG04
import Derived.WideShapes
import Derived.Test.YtljloicgjgbplaaGreatG02
import Derived.Test.YtljloicgjgbplaaGreatG05
import Derived.Test.YtljloicgjgbplaaGreatG06
import Derived.WalkSpells
import Derived.Deep.LoopGhost
namespace Go.Proofs.YtljloicgjgbplaaGreat
open Go.RowKit

def spI (c : Int) : Bool := decide (c = 9 ∨ c = 10 ∨ c = 12 ∨ c = 13 ∨ c = 32)
theorem space_ok (x : Int) (w : World) : Calls Tryz.prog 125 #[.int .u8 x] w fun e w' => e = .returned (.bool (spI x)) ∧ w = w' := by
  go_enter Tryz.func125, Tryz.ntmps125
  go_wp2
  all_goals
    go_ret
    exact ⟨ret_bool (by unfold spI; first | (simp_all; done) | (rw [Bool.eq_iff_iff]; simp; omega)), rfl⟩
theorem rspace_ok (x : Int) (w : World) : Calls Tryz.prog 183 #[.int .u8 x] w fun e w' => e = .returned (.bool (spI x)) ∧ w = w' := by
  go_enter Tryz.func183, Tryz.ntmps183
  go_wp2
  all_goals
    go_ret
    exact ⟨ret_bool (by unfold spI; first | (simp_all; done) | (rw [Bool.eq_iff_iff]; simp; omega)), rfl⟩
end Go.Proofs.YtljloicgjgbplaaGreat
/- Walks: the chapter's example tree, and what is checked of it. No condition. -/
namespace Go.Proofs.YtljloicgjgbplaaGreat
open Go.RowKit

def bs (l : List UInt8) : ByteArray := ⟨l.toArray⟩
theorem isInts_nil (w : World) : IsInts w none 0 [] := ⟨rfl, by omega, fun h => absurd h (by omega)⟩
theorem isAttrs_nil (w : World) : IsAttrs w none 0 [] := ⟨rfl, by omega, fun _ h => by simp at h, fun h => absurd h (by omega)⟩

end Go.Proofs.YtljloicgjgbplaaGreat
/- Plain: the words of a text, each once; byte by byte. No condition. -/
namespace Go.Proofs.YtljloicgjgbplaaGreat
open Go.RowKit

def sp8 (c : UInt8) : Bool := spI (c.toNat : Int)
theorem bs_size (l : List UInt8) : (bs l).size = l.length := by simp [bs, ByteArray.size]
instance (s : ByteArray) (xs : List ByteArray) : Decidable (s ∈ xs) := decidable_of_iff (xs.any (fun x => decide (x = s)) = true) (by simp)
def finW (out : List ByteArray) (cur : List UInt8) : List ByteArray := if cur = [] ∨ bs cur ∈ out then out else out ++ [bs cur]
def splitW : List UInt8 → List UInt8 → List ByteArray → List ByteArray
  | [], cur, out => finW out cur
  | c :: l, cur, out => if sp8 c then splitW l [] (finW out cur) else splitW l (cur ++ [c]) out
def wordsS (s : ByteArray) : List ByteArray := splitW s.data.toList [] []

theorem finW_nil (out : List ByteArray) : finW out [] = out := by simp [finW]
theorem finW_in {out : List ByteArray} {cur : List UInt8} (h : bs cur ∈ out) : finW out cur = out := by unfold finW; rw [if_pos (.inr h)]
theorem finW_new {out : List ByteArray} {cur : List UInt8} (h : cur ≠ []) (h2 : bs cur ∉ out) : finW out cur = out ++ [bs cur] := by unfold finW; rw [if_neg (by rintro (h3 | h3) <;> contradiction)]
theorem splitW_run (l r cur : List UInt8) (out : List ByteArray) (h : ∀ c ∈ l, sp8 c = false) : splitW (l ++ r) cur out = splitW r (cur ++ l) out := by
  induction l generalizing cur with
  | nil => simp
  | cons c l ih =>
    simp only [List.cons_append, splitW, h c (by simp), Bool.false_eq_true, if_false]
    rw [ih _ (fun x hx => h x (by simp [hx]))]
    simp
theorem splitW_stop (l cur : List UInt8) (out : List ByteArray) (h : ∀ c, l.head? = some c → sp8 c = true) : splitW l cur out = splitW l [] (finW out cur) := by
  cases l with
  | nil => simp [splitW, finW_nil]
  | cons c l => simp [splitW, h c (by simp), finW_nil]
theorem drop_at {l : List UInt8} {k : Nat} (h : k < l.length) : l.drop k = l[k] :: l.drop (k + 1) := List.drop_eq_getElem_cons h

/-- One byte more, for the reference. -/
theorem split_space {s : ByteArray} {k : Nat} {cur : List UInt8} {out R : List ByteArray} (h : k < s.size) (hs : sp8 (s[k]'h) = true) (he : splitW (s.data.toList.drop k) cur out = R) : splitW (s.data.toList.drop (k + 1)) [] (finW out cur) = R := by
  rw [drop_at (by simpa using h)] at he
  simp only [splitW] at he
  rw [if_pos (by exact hs)] at he
  exact he
theorem split_byte {s : ByteArray} {k : Nat} {cur : List UInt8} {out R : List ByteArray} (h : k < s.size) (hs : sp8 (s[k]'h) = false) (he : splitW (s.data.toList.drop k) cur out = R) : splitW (s.data.toList.drop (k + 1)) (cur ++ [s[k]'h]) out = R := by
  rw [drop_at (by simpa using h)] at he
  simp only [splitW] at he
  rw [if_neg (by show ¬ sp8 (s[k]'h) = true; simp [hs])] at he
  exact he
theorem split_end {s : ByteArray} {cur : List UInt8} {out R : List ByteArray} (he : splitW (s.data.toList.drop s.size) cur out = R) : finW out cur = R := by
  rw [List.drop_of_length_le (by simp)] at he
  exact he
/-- A word's bytes, for the program. -/
def cutL (s : ByteArray) (a b : Nat) : List UInt8 := (s.data.toList.drop a).take (b - a)
theorem cutL_split {s : ByteArray} {a b : Nat} (h : a ≤ b) : s.data.toList.drop a = cutL s a b ++ s.data.toList.drop b := by
  unfold cutL
  have := List.take_append_drop (b - a) (s.data.toList.drop a)
  rw [List.drop_drop, show a + (b - a) = b by omega] at this
  exact this.symm
theorem cutL_len {s : ByteArray} {a b : Nat} (h : a ≤ b) (hb : b ≤ s.size) : (cutL s a b).length = b - a := by
  unfold cutL
  have : s.data.size = s.size := rfl
  rw [List.length_take, List.length_drop]; simp; omega
theorem cutL_mem {s : ByteArray} {a b : Nat} {c : UInt8} (h : c ∈ cutL s a b) : ∃ j, a ≤ j ∧ j < b ∧ ∃ hj : j < s.size, s[j]'hj = c := by
  unfold cutL at h
  obtain ⟨i, hi, rfl⟩ := List.getElem_of_mem h
  have hd : s.data.size = s.size := rfl
  have hi' := hi
  rw [List.length_take, List.length_drop] at hi'
  simp at hi'
  refine ⟨a + i, by omega, by omega, by omega, ?_⟩
  rw [List.getElem_take, List.getElem_drop]
  rfl
theorem split_word {s : ByteArray} {a b : Nat} {out R : List ByteArray} (h : a ≤ b) (hn : ∀ j (hj : j < s.size), a ≤ j → j < b → sp8 (s[j]'hj) = false) (hend : ∀ hj : b < s.size, sp8 (s[b]'hj) = true) (he : splitW (s.data.toList.drop a) [] out = R) :
    splitW (s.data.toList.drop b) [] (finW out (cutL s a b)) = R := by
  rw [cutL_split h, splitW_run _ _ _ _ (fun c hc => by obtain ⟨j, h1, h2, h3, rfl⟩ := cutL_mem hc; exact hn j h3 h1 h2), List.nil_append, splitW_stop] at he
  · exact he
  · intro c hc
    have hd : s.data.size = s.size := rfl
    by_cases hb : b < s.size
    · rw [drop_at (by simpa using hb)] at hc
      simp at hc
      rw [← hc]
      exact hend hb
    · rw [List.drop_of_length_le (by simp; omega)] at hc
      simp at hc
end Go.Proofs.YtljloicgjgbplaaGreat
/- Plain laws: being below, depth and top in a good tree. Condition: the tree is good. -/
namespace Go.Proofs.YtljloicgjgbplaaGreat

section
variable {T : List ANode} (hg : goodB T = true)
include hg
end

section
variable {T : List ANode} (hg : goodB T = true)
include hg
theorem topF_range {i : Nat} (hi : i < T.length) : 0 ≤ topF T i ∧ topF T i < T.length ∧ par T (topF T i).toNat = -1 := by
  generalize hm : (anc T (i : Int)).length = m
  induction m using Nat.strongRecOn generalizing i with
  | _ m ih =>
    have hr := good_par hg hi
    rcases Int.lt_or_le (par T i) 0 with hp | hp
    · rw [topF_top hg hi hp]
      simp; omega
    · rw [topF_up hg hi hp]
      obtain ⟨p, hp'⟩ := Int.eq_ofNat_of_zero_le hp
      have hl := anc_len_lt hg hi
      rw [hp'] at hl hr ⊢
      exact ih _ (by omega) (by omega) rfl
end
end Go.Proofs.YtljloicgjgbplaaGreat
/- Document order, in plain Lean: lists of elements in lists of elements, what comes first. Condition of the laws: the tree is good. -/
namespace Go.Proofs.YtljloicgjgbplaaGreat

/-- An element and all that are below it, in document order (a bounded depth). -/
def pre (T : List ANode) : Nat → Int → List Int
  | 0, _ => []
  | f + 1, k => k :: (kids T k.toNat).flatMap (pre T f)
def preT (T : List ANode) (k : Int) : List Int := pre T T.length k

theorem flatMap_same {α β : Type} {l : List α} {f g : α → List β} (h : ∀ a ∈ l, f a = g a) : l.flatMap f = l.flatMap g := by
  induction l with
  | nil => rfl
  | cons a l ih => rw [List.flatMap_cons, List.flatMap_cons, h a (by simp), ih fun b hb => h b (by simp [hb])]
theorem flatMap_nodup {α β : Type} {l : List α} {f : α → List β} (h : ∀ a ∈ l, (f a).Nodup) (hp : l.Pairwise fun a b => ∀ x, x ∈ f a → x ∉ f b) : (l.flatMap f).Nodup := by
  induction l with
  | nil => simp
  | cons a l ih =>
    rw [List.flatMap_cons, List.nodup_append]
    obtain ⟨h1, h2⟩ := List.pairwise_cons.1 hp
    refine ⟨h a (by simp), ih (fun b hb => h b (by simp [hb])) h2, fun x hx y hy => ?_⟩
    obtain ⟨b, hb, hyb⟩ := List.mem_flatMap.1 hy
    rintro rfl
    exact h1 b hb x hx hyb

section
variable {T : List ANode} (hg : goodB T = true)
include hg
theorem good_kid {i : Nat} (hi : i < T.length) {c : Int} (hc : c ∈ kids T i) : ∃ k : Nat, c = (k : Int) ∧ k < T.length ∧ par T k = i := by
  have h := ((linkedB_iff T i).1 (((goodB_iff T).1 hg).2.2.1 i hi).2.2).2.2.2.2
  obtain ⟨j, hj, rfl⟩ := List.mem_iff_getElem.1 hc
  have := h j hj
  unfold kidOk at this
  rw [ix_get hj] at this
  obtain ⟨h1, h2, h3, -⟩ := this
  exact ⟨(kids T i)[j].toNat, by omega, by omega, h3⟩
theorem kids_nodup {i : Nat} (hi : i < T.length) : (kids T i).Nodup := by
  have h := ((linkedB_iff T i).1 (((goodB_iff T).1 hg).2.2.1 i hi).2.2).2.2.2.2
  refine List.pairwise_iff_getElem.2 fun a b ha hb hab he => ?_
  have := (h b hb).2.2.2
  rw [ix_get hb] at this
  apply this
  rw [← he, List.mem_take_iff_getElem]
  exact ⟨a, by omega, rfl⟩
theorem par_kid {x : Nat} (hx : x < T.length) (hp : 0 ≤ par T x) : (x : Int) ∈ kids T (par T x).toNat :=
  ((linkedB_iff T x).1 (((goodB_iff T).1 hg).2.2.1 x hx).2.2).2.2.2.1 hp
theorem kid_anc {i : Nat} {k : Nat} (hk : k < T.length) (hp : par T k = i) : anc T k = (k : Int) :: anc T i := by rw [anc_cons hg hk, hp]
theorem anc_self_mem {i : Nat} (hi : i < T.length) : (i : Int) ∈ anc T i := by rw [anc_cons hg hi]; simp
theorem anc_trans {x y : Nat} (hx : x < T.length) (h : (y : Int) ∈ anc T x) {z : Int} (hz : z ∈ anc T y) : z ∈ anc T x := by
  generalize hm : (anc T (x : Int)).length = m
  induction m using Nat.strongRecOn generalizing x with
  | _ m ih =>
    have h0 := h
    rw [anc_cons hg hx] at h
    rcases List.mem_cons.1 h with h | h
    · have : y = x := by omega
      subst this; exact hz
    · rcases Int.lt_or_le (par T x) 0 with hp | hp
      · rw [anc_neg hp] at h; simp at h
      · obtain ⟨p, hp'⟩ := Int.eq_ofNat_of_zero_le hp
        have hl := anc_len_lt hg hx
        have hpl := (good_par hg hx).2
        rw [hp'] at h hl hpl
        rw [anc_cons hg hx, hp']
        exact List.mem_cons_of_mem _ (ih _ (by omega) (by omega : p < T.length) h rfl)
theorem anc_same {x y z : Nat} (hx : x < T.length) (hy : (y : Int) ∈ anc T x) (hz : (z : Int) ∈ anc T x) (he : (anc T y).length = (anc T z).length) : y = z := by
  generalize hm : (anc T (x : Int)).length = m
  induction m using Nat.strongRecOn generalizing x with
  | _ m ih =>
    rcases Int.lt_or_le (par T x) 0 with hp | hp
    · rw [anc_cons hg hx, anc_neg hp] at hy hz
      simp at hy hz; omega
    · obtain ⟨p, hp'⟩ := Int.eq_ofNat_of_zero_le hp
      have hl := anc_len_lt hg hx
      have hpl := (good_par hg hx).2
      rw [hp'] at hl hpl
      have hpn : p < T.length := by omega
      rw [anc_cons hg hx, hp'] at hy hz
      rcases List.mem_cons.1 hy with hy | hy <;> rcases List.mem_cons.1 hz with hz | hz
      · omega
      · have := anc_sub hg hpn hz
        have : y = x := by omega
        subst this; omega
      · have := anc_sub hg hpn hy
        have : z = x := by omega
        subst this; omega
      · exact ih _ (by omega) hpn hy hz rfl
theorem anc_pos {i : Nat} (hi : i < T.length) : 1 ≤ (anc T i).length := by rw [anc_cons hg hi]; simp

theorem pre_stable (f g : Nat) {k : Nat} (hk : k < T.length) (hf : T.length + 1 ≤ f + (anc T k).length) (hg' : T.length + 1 ≤ g + (anc T k).length) : pre T f k = pre T g k := by
  induction f generalizing g k with
  | zero => have := anc_le hg (x := (k : Int)) (by omega); omega
  | succ f ih =>
    cases g with
    | zero => have := anc_le hg (x := (k : Int)) (by omega); omega
    | succ g =>
      simp only [pre, Int.toNat_natCast]
      congr 1
      refine flatMap_same fun c hc => ?_
      obtain ⟨j, rfl, hj, hp⟩ := good_kid hg hk hc
      have := kid_anc hg hj hp
      exact ih g hj (by rw [this]; simp; omega) (by rw [this]; simp; omega)
theorem pre_preT (f : Nat) {k : Nat} (hk : k < T.length) (hf : T.length + 1 ≤ f + (anc T k).length) : pre T f k = preT T k :=
  pre_stable hg _ _ hk hf (by have := anc_pos hg hk; omega)
theorem preT_cons {k : Nat} (hk : k < T.length) : preT T k = (k : Int) :: (kids T k).flatMap (preT T) := by
  rw [← pre_preT hg (T.length + 1) hk (by omega)]
  simp only [pre, Int.toNat_natCast]
  rfl
theorem pre_mem (f : Nat) {k : Nat} (hk : k < T.length) {x : Int} (h : x ∈ pre T f k) : ∃ y : Nat, x = (y : Int) ∧ y < T.length ∧ (k : Int) ∈ anc T y := by
  induction f generalizing k with
  | zero => simp [pre] at h
  | succ f ih =>
    simp only [pre, Int.toNat_natCast] at h
    rcases List.mem_cons.1 h with rfl | h
    · exact ⟨k, rfl, hk, anc_self_mem hg hk⟩
    · obtain ⟨c, hc, hx⟩ := List.mem_flatMap.1 h
      obtain ⟨j, rfl, hj, hp⟩ := good_kid hg hk hc
      obtain ⟨y, rfl, hy, ha⟩ := ih hj hx
      refine ⟨y, rfl, hy, anc_trans hg hy ha ?_⟩
      rw [kid_anc hg hj hp]
      exact List.mem_cons_of_mem _ (anc_self_mem hg hk)
theorem pre_nodup (f : Nat) {k : Nat} (hk : k < T.length) : (pre T f k).Nodup := by
  induction f generalizing k with
  | zero => simp [pre]
  | succ f ih =>
    simp only [pre, Int.toNat_natCast]
    refine List.nodup_cons.2 ⟨fun h => ?_, ?_⟩
    · obtain ⟨c, hc, hx⟩ := List.mem_flatMap.1 h
      obtain ⟨j, rfl, hj, hp⟩ := good_kid hg hk hc
      obtain ⟨y, hye, hy, ha⟩ := pre_mem hg f hj hx
      have : y = k := by omega
      subst this
      have h1 := anc_sub hg hy ha
      rw [kid_anc hg hj hp, List.length_cons] at h1
      omega
    · refine flatMap_nodup (fun c hc => ?_) ?_
      · obtain ⟨j, rfl, hj, hp⟩ := good_kid hg hk hc
        exact ih hj
      · refine List.Pairwise.imp_of_mem ?_ (kids_nodup hg hk)
        rintro a b ha hb hne x hxa hxb
        obtain ⟨i, rfl, hi, hpi⟩ := good_kid hg hk ha
        obtain ⟨j, rfl, hj, hpj⟩ := good_kid hg hk hb
        obtain ⟨y, rfl, hy, h1⟩ := pre_mem hg f hi hxa
        obtain ⟨z, hz, hz', h2⟩ := pre_mem hg f hj hxb
        have : z = y := by omega
        subst this
        have := anc_same hg hy h1 h2 (by rw [kid_anc hg hi hpi, kid_anc hg hj hpj]; simp)
        exact hne (by omega)
theorem preT_step {k x y : Nat} (hk : k < T.length) (h : (x : Int) ∈ preT T k) (hy : (y : Int) ∈ kids T x) : (y : Int) ∈ preT T k := by
  generalize hm : T.length - (anc T (k : Int)).length = m
  induction m using Nat.strongRecOn generalizing k with
  | _ m ih =>
    rw [preT_cons hg hk] at h ⊢
    rcases List.mem_cons.1 h with h | h
    · have : x = k := by omega
      subst this
      refine List.mem_cons_of_mem _ (List.mem_flatMap.2 ⟨y, hy, ?_⟩)
      obtain ⟨j, hj', hj, hp⟩ := good_kid hg hk hy
      rw [hj', preT_cons hg hj]; simp
    · obtain ⟨c, hc, hxc⟩ := List.mem_flatMap.1 h
      obtain ⟨j, rfl, hj, hp⟩ := good_kid hg hk hc
      refine List.mem_cons_of_mem _ (List.mem_flatMap.2 ⟨_, hc, ih (T.length - (anc T (j : Int)).length) ?_ hj hxc rfl⟩)
      have h1 := kid_anc hg hj hp
      have h2 := anc_le hg (x := (j : Int)) (by omega)
      rw [h1] at h2 ⊢
      simp at h2 ⊢; omega
theorem mem_preT {k x : Nat} (hk : k < T.length) (hx : x < T.length) : (x : Int) ∈ preT T k ↔ (k : Int) ∈ anc T x := by
  constructor
  · intro h
    obtain ⟨y, hy, -, h2⟩ := pre_mem hg _ hk h
    have : y = x := by omega
    subst this; exact h2
  · intro h
    generalize hm : (anc T (x : Int)).length = m
    induction m using Nat.strongRecOn generalizing x with
    | _ m ih =>
      have h0 := h
      rw [anc_cons hg hx] at h
      rcases List.mem_cons.1 h with h | h
      · have : k = x := by omega
        subst this
        rw [preT_cons hg hk]; simp
      · rcases Int.lt_or_le (par T x) 0 with hp | hp
        · rw [anc_neg hp] at h; simp at h
        · have hpk := par_kid hg hx hp
          obtain ⟨p, hp'⟩ := Int.eq_ofNat_of_zero_le hp
          have hl := anc_len_lt hg hx
          have hpl := (good_par hg hx).2
          rw [hp'] at h hl hpl hpk
          exact preT_step hg hk (ih _ (by omega) (by omega) h rfl) (by simpa using hpk)
theorem preT_nodup {k : Nat} (hk : k < T.length) : (preT T k).Nodup := pre_nodup hg _ hk
theorem preT_len {k : Nat} (hk : k < T.length) : (preT T k).length ≤ T.length :=
  nodup_range_le _ _ (preT_nodup hg hk) fun _ hy => by obtain ⟨y, rfl, h, -⟩ := pre_mem hg _ hk hy; omega
end
end Go.Proofs.YtljloicgjgbplaaGreat
namespace Go.Proofs.YtljloicgjgbplaaGreat
open Go.RowKit

def listE (T : List ANode) (i : Int) : List Int := if askI T [i] = 0 then preT T i else []
def aboveE (T : List ANode) (i : Int) : List Int := if askI T [i] = 0 then anc T (par T i.toNat) else []

theorem infix_flat {l : List Int} {f : Int → List Int} {x : Int} (h : x ∈ l) : f x <:+: l.flatMap f := by
  induction l with
  | nil => simp at h
  | cons a l ih =>
    rw [List.flatMap_cons]
    rcases List.mem_cons.1 h with rfl | h
    · exact (List.prefix_append _ _).isInfix
    · exact (ih h).trans (List.suffix_append _ _).isInfix
section
variable {T : List ANode} (hg : goodB T = true)
include hg
theorem kid_preT {p : Nat} (hp : p < T.length) {c : Int} (hc : c ∈ kids T p) : preT T c <:+: preT T p := by
  rw [preT_cons hg hp]
  exact (infix_flat hc).trans (List.suffix_cons _ _).isInfix
theorem preT_self {k : Nat} (hk : k < T.length) : (k : Int) ∈ preT T k := by rw [preT_cons hg hk]; simp
theorem preT_infix {k x : Nat} (hx : x < T.length) (h : (k : Int) ∈ anc T x) : preT T x <:+: preT T k := by
  generalize hm : (anc T (x : Int)).length = m
  induction m using Nat.strongRecOn generalizing x with
  | _ m ih =>
    rw [anc_cons hg hx] at h
    rcases List.mem_cons.1 h with h | h
    · have : k = x := by omega
      subst this; exact List.infix_rfl
    · rcases Int.lt_or_le (par T x) 0 with hp | hp
      · rw [anc_neg hp] at h; simp at h
      · have hpk := par_kid hg hx hp
        obtain ⟨p, hp'⟩ := Int.eq_ofNat_of_zero_le hp
        have hl := anc_len_lt hg hx
        have hpl := (good_par hg hx).2
        rw [hp'] at h hl hpl hpk
        exact (kid_preT hg (by omega) (by simpa using hpk)).trans (ih _ (by omega) (by omega) h rfl)
theorem top_nat {i : Nat} (hi : i < T.length) : ∃ t : Nat, topF T i = (t : Int) ∧ t < T.length ∧ (t : Int) ∈ anc T i := by
  obtain ⟨h1, h2, h3⟩ := topF_range hg hi
  obtain ⟨t, ht⟩ := Int.eq_ofNat_of_zero_le h1
  rw [ht] at h2 h3
  refine ⟨t, ht, by omega, ?_⟩
  rw [← ht]
  unfold topF
  rw [anc_cons hg hi]
  rw [List.getLast?_eq_some_getLast (by simp)]
  exact List.getLast_mem _
end
end Go.Proofs.YtljloicgjgbplaaGreat
/- Walks: lists of texts: whether one is in; the words of a text, by the reference. Condition: the text has at most 1000 bytes. -/
namespace Go.Proofs.YtljloicgjgbplaaGreat
open Go.RowKit

theorem str_eq {a b : ByteArray} (h : a = b) : (a.toList == b.toList) = true := by simp [h]
theorem str_ne {a b : ByteArray} (h : a ≠ b) : (a.toList == b.toList) = false := by
  rw [Bool.eq_false_iff]; intro h'; exact h (toList_inj (by simpa using h'))
theorem sx_in {xs : List ByteArray} {k : Nat} {s : ByteArray} (hk : k < xs.length) (h : sx xs k = s) : s ∈ xs := by
  rw [← h, sx_get hk]; exact List.getElem_mem _
theorem sx_out {xs : List ByteArray} {s : ByteArray} (h : ∀ j, j < xs.length → sx xs j ≠ s) : s ∉ xs := by
  intro hm
  obtain ⟨i, hi, rfl⟩ := List.getElem_of_mem hm
  exact h i hi (sx_get hi)

theorem rin_ok (A : Option Addr) (n c : Nat) (xs : List ByteArray) (s : ByteArray) (w : World) (h : IsStrs w A n xs) :
    Calls Tryz.prog 177 #[.slice A n c, .string s] w fun e w' => e = .returned (.bool (decide (s ∈ xs))) ∧ w = w' := by
  obtain ⟨hl, hn, ho⟩ := h
  go_enter Tryz.func177, Tryz.ntmps177
  go_wp2
  go_loop [5] (fun i => ∃ k : Nat, k ≤ n ∧ i = .int .i64 k ∧ Hid (∀ j, j < k → sx xs j ≠ s)) (fun i => n - (intOf i).toNat)
  case atStart => exact ⟨0, Nat.zero_le _, rfl, fun j hj => absurd hj (by omega)⟩
  case round =>
    obtain ⟨k, hk, rfl, hne⟩ := hrel
    by_cases hlt : k < n
    · obtain ⟨b, off, rfl, hbl, hc⟩ := ho (by omega)
      have hck := hc k hlt
      clear hc
      by_cases he : sx xs k = s
      · have hp : Hid (decide (s ∈ xs) = true) := by show _ = _; simpa using sx_in (by omega) he
        have he' := str_eq he
        clear he hne ho
        go_wp2
        go_ret
        exact ⟨ret_bool hp.out.symm, rfl⟩
      · have he' := str_ne he
        have he2 := hide he
        clear he ho
        go_wp2
        go_round
        case rel => exact ⟨k + 1, by omega, by go_num, fun j hj => by
          by_cases h : j = k
          · subst h; exact he2.out
          · exact hne.out j (by omega)⟩
        case measure => simp [intOf]; omega
    · have hp : Hid (decide (s ∈ xs) = false) := by show _ = _; simpa using sx_out (fun j hj => hne.out j (by omega))
      go_wp2
      go_ret
      exact ⟨ret_bool hp.out.symm, rfl⟩

theorem contS_ok (A : Option Addr) (n c : Nat) (xs : List ByteArray) (s : ByteArray) (w : World) (h : IsStrs w A n xs) :
    Calls Tryz.prog 88 #[.slice A n c, .string s] w fun e w' => e = .returned (.bool (decide (s ∈ xs))) ∧ w = w' := by
  have hix : Calls Tryz.prog 124 #[.slice A n c, .string s] w fun e w' => (∃ x : Int, e = .returned (.int .i64 x) ∧ (0 ≤ x ↔ s ∈ xs)) ∧ w = w' := by
    obtain ⟨hl, hn, ho⟩ := h
    go_enter Tryz.func124, Tryz.ntmps124
    go_wp2
    go_loop [5, 8, 10, 11, 12, 13, 14, 15, 16, 17, 18] (fun _ i _ _ _ _ _ _ _ _ _ => ∃ k : Nat, k ≤ n ∧ i = .int .i64 k ∧ Hid (∀ j, j < k → sx xs j ≠ s)) (fun _ i _ _ _ _ _ _ _ _ _ => n - (intOf i).toNat)
    case atStart => exact ⟨0, Nat.zero_le _, rfl, fun j hj => absurd hj (by omega)⟩
    case round =>
      obtain ⟨k, hk, rfl, hne⟩ := hrel
      by_cases hlt : k < n
      · obtain ⟨b, off, rfl, hbl, hc⟩ := ho (by omega)
        have hck := hc k hlt
        clear hc
        by_cases he : sx xs k = s
        · have hp : Hid (s ∈ xs) := sx_in (by omega) he
          have he' := str_eq he.symm
          clear he hne ho
          go_wp2
          go_ret
          exact ⟨⟨_, rfl, by simp [hp.out]⟩, rfl⟩
        · have he' := str_ne fun h => he h.symm
          have he2 := hide he
          clear he ho
          go_wp2
          go_round
          case rel => exact ⟨k + 1, by omega, by go_num, fun j hj => by
            by_cases h : j = k
            · subst h; exact he2.out
            · exact hne.out j (by omega)⟩
          case measure => simp [intOf]; omega
      · have hp : Hid (s ∉ xs) := sx_out (fun j hj => hne.out j (by omega))
        go_wp2
        go_ret
        exact ⟨⟨_, rfl, by simp [hp.out]⟩, rfl⟩
  go_enter Tryz.func88, Tryz.ntmps88
  go_wp2_with fail
  refine (hix).mono ?_
  rintro e w1 ⟨⟨x, rfl, hx⟩, rfl⟩
  have hp : Hid (decide (s ∈ xs) = decide (0 ≤ x)) := by show _ = _; simp [hx]
  clear hx
  go_wp2
  go_ret
  exact ⟨ret_bool hp.out.symm, rfl⟩

/-- A list of texts that the call has made. -/
def MadeStrs (w : World) (xs : List ByteArray) (e : Ending) (w' : World) : Prop :=
  ∃ (A : Option Addr) (c : Nat), e = .returned (.slice A xs.length c) ∧ OwnS w' w.heap.size (.slice A xs.length c) xs ∧ IsStrs w' A xs.length xs ∧ Below w.heap.size w w'

def SInv (s : ByteArray) (k : Nat) (cur : List UInt8) (out : List ByteArray) : Prop :=
  (k ≤ s.size → splitW (s.data.toList.drop k) cur out = wordsS s) ∧ (k = s.size + 1 → out = wordsS s) ∧ out.length ≤ k ∧ cur.length ≤ k
theorem SInv.byte {s : ByteArray} {k : Nat} {cur : List UInt8} {out : List ByteArray} (h : SInv s k cur out) (hk : k < s.size) (hs : sp8 (s[k]'hk) = false) : SInv s (k + 1) (cur ++ [s[k]'hk]) out :=
  ⟨fun _ => split_byte hk hs (h.1 (by omega)), fun _ => by omega, by have := h.2.2.1; omega, by have := h.2.2.2; simp; omega⟩
theorem SInv.space {s : ByteArray} {k : Nat} {cur : List UInt8} {out : List ByteArray} (h : SInv s k cur out) (hk : k ≤ s.size) (hs : ∀ hk : k < s.size, sp8 (s[k]'hk) = true) {o : List ByteArray} (ho : o = finW out cur) (hl : o.length ≤ k + 1) : SInv s (k + 1) [] o := by
  subst ho
  refine ⟨fun h1 => split_space (by omega) (hs (by omega)) (h.1 hk), fun h1 => ?_, hl, Nat.zero_le _⟩
  obtain rfl : k = s.size := by omega
  exact split_end (h.1 hk)
theorem bs_snoc {s : ByteArray} {cur : List UInt8} {k : Nat} (hk : k < s.size) : bs cur ++ s.extract k (k + 1) = bs (cur ++ [s[k]'hk]) := by
  apply Go.WideShapes.bytes_inj
  have hd : s.data.size = s.size := rfl
  simp [bs]
  have h1 : k + 1 - k = 1 := by omega
  apply List.ext_getElem
  · simp; omega
  · intro i h1 h2
    simp at h1 h2
    obtain rfl : i = 0 := by omega
    simp
    rfl

end Go.Proofs.YtljloicgjgbplaaGreat
/- Walks: the words of a text, by the reference and by the program. Condition: the text has at most 1000 bytes. -/
namespace Go.Proofs.YtljloicgjgbplaaGreat
open Go.RowKit

theorem bs_no {l : List UInt8} (h : l ≠ []) : (bs l).toList ≠ [] ∧ (bs l).toList.isEmpty = false := by
  have h1 : (bs l).toList ≠ [] := by
    rw [ByteArray.toList_eq]; simpa [bs] using h
  refine ⟨h1, ?_⟩
  cases hh : (bs l).toList with
  | nil => exact absurd hh h1
  | cons => rfl
theorem bs_yes : (bs []).toList = [] ∧ (bs []).toList.isEmpty = true := ⟨by kernel_rfl, by kernel_rfl⟩

set_option maxRecDepth 100000 in
set_option maxHeartbeats 1000000 in
theorem split_ok (s : ByteArray) (w : World) (hs : s.size ≤ 1000) : Calls Tryz.prog 178 #[.string s] w (MadeStrs w (wordsS s)) := by
  go_enter Tryz.func178, Tryz.ntmps178
  go_wp2
  go_loopw [3, 4, 5] (fun v u i wr => ∃ (k : Nat) (cur : List UInt8) (out : List ByteArray) (A : Option Addr) (c : Nat), k ≤ s.size + 1 ∧ i = .int .i64 k ∧ u = .string (bs cur) ∧ v = .slice A out.length c ∧ Hid (SInv s k cur out) ∧ out.length ≤ k ∧ cur.length ≤ k ∧ OwnS wr w.heap.size v out ∧ Below w.heap.size w wr) (fun _ _ i _ => s.size + 1 - (intOf i).toNat)
  case atStart => exact ⟨0, [], [], none, 0, Nat.zero_le _, rfl, rfl, rfl, ⟨fun _ => rfl, fun h => absurd h (by omega), Nat.le_refl _, Nat.le_refl _⟩, Nat.le_refl _, Nat.le_refl _, OwnS.nil _ _, Below.refl _ _⟩
  case round =>
    obtain ⟨k, cur, out, A, c, hk, rfl, rfl, rfl, hI, hol, hcl, hown, hb⟩ := hrel
    have hsz := hb.size
    by_cases hlt : k < s.size
    · cases hsp : sp8 (s[k]'hlt)
      · have hsp' : spI (((s[k]'hlt).toNat : Int)) = false := hsp
        have hn := hide (hI.out.byte hlt hsp)
        have hx := hide (bs_snoc (cur := cur) hlt)
        have hbz : ¬ 9223372036854775807 < (bs cur).size + (min (k + 1) s.size - k) := by rw [bs_size]; omega
        clear hsp hI
        go_wp2_with (go_at_call 183; refine (rspace_ok _ _).mono ?_; rintro e w2 ⟨rfl, rfl⟩)
        go_roundw
        case rel => exact ⟨k + 1, _, out, A, c, by omega, by go_num, by rw [hx.out], rfl, hn, by omega, by simp; omega, hown, hb⟩
        case measure => simp [intOf]; omega
      · have hsp' : spI (((s[k]'hlt).toNat : Int)) = true := hsp
        by_cases hc : cur = []
        · subst hc
          obtain ⟨e1, e2⟩ := bs_yes
          have hn := hide (hI.out.space (by omega) (fun _ => hsp) (o := out) (finW_nil _).symm (by omega))
          clear hI
          go_wp2_with (go_at_call 183; refine (rspace_ok _ _).mono ?_; rintro e w2 ⟨rfl, rfl⟩)
          go_roundw
          case rel => exact ⟨k + 1, [], out, A, c, by omega, by go_num, rfl, rfl, hn, by omega, Nat.zero_le _, hown, hb⟩
          case measure => simp [intOf]; omega
        · obtain ⟨e1, e2⟩ := bs_no hc
          obtain ⟨A', c', he, hc1, hc2, hSt⟩ := hown.isStrs (by omega)
          injection he with he1 he2 he3
          subst he1 he3
          have hSt' := hide hSt
          by_cases hi : bs cur ∈ out
          · have hn := hide (hI.out.space (by omega) (fun _ => hsp) (o := out) (finW_in hi).symm (by omega))
            have hd := hide (rin_ok A out.length c out (bs cur) wr hSt)
            rw [decide_eq_true hi] at hd
            clear hI hSt hi hc
            go_wp2_with (first | (go_at_call 183; refine (rspace_ok _ _).mono ?_; rintro e w2 ⟨rfl, rfl⟩) | (go_at_call 177; refine hd.out.mono ?_; rintro e w2 ⟨rfl, rfl⟩))
            go_roundw
            case rel => exact ⟨k + 1, [], out, A, c, by omega, by go_num, rfl, rfl, hn, by omega, Nat.zero_le _, hown, hb⟩
            case measure => simp [intOf]; omega
          · have hn := hide (hI.out.space (by omega) (fun _ => hsp) (o := out ++ [bs cur]) (finW_new hc hi).symm (by simp; omega))
            have hd := hide (rin_ok A out.length c out (bs cur) wr hSt)
            rw [decide_eq_false hi] at hd
            have hown' := hide hown
            clear hI hSt hi hc hown
            go_wp2_with (first | (go_at_call 183; refine (rspace_ok _ _).mono ?_; rintro e w2 ⟨rfl, rfl⟩) | (go_at_call 177; refine hd.out.mono ?_; rintro e w2 ⟨rfl, rfl⟩) | (at_builtin; refine wpList_pushS rfl _ _ rfl hown'.out (bs cur) _ rfl rfl (by omega) hsz ?_; intro A2 c2 w2 hown2 hg2))
            go_roundw
            case rel => exact ⟨k + 1, [], out ++ [bs cur], A2, c2, by omega, by go_num, rfl, by simp, hn, by simp; omega, Nat.zero_le _, by simpa using hown2, hg2.below (Nat.le_refl _) hb⟩
            case measure => simp [intOf]; omega
    · by_cases hle : k ≤ s.size
      · by_cases hc : cur = []
        · subst hc
          obtain ⟨e1, e2⟩ := bs_yes
          have hn := hide (hI.out.space (by omega) (fun h => absurd h hlt) (o := out) (finW_nil _).symm (by omega))
          clear hI
          go_wp2_with (go_at_call 183; refine (rspace_ok _ _).mono ?_; rintro e w2 ⟨rfl, rfl⟩)
          go_roundw
          case rel => exact ⟨k + 1, [], out, A, c, by omega, by go_num, rfl, rfl, hn, by omega, Nat.zero_le _, hown, hb⟩
          case measure => simp [intOf]; omega
        · obtain ⟨e1, e2⟩ := bs_no hc
          obtain ⟨A', c', he, hc1, hc2, hSt⟩ := hown.isStrs (by omega)
          injection he with he1 he2 he3
          subst he1 he3
          have hSt' := hide hSt
          by_cases hi : bs cur ∈ out
          · have hn := hide (hI.out.space (by omega) (fun h => absurd h hlt) (o := out) (finW_in hi).symm (by omega))
            have hd := hide (rin_ok A out.length c out (bs cur) wr hSt)
            rw [decide_eq_true hi] at hd
            clear hI hSt hi hc
            go_wp2_with (first | (go_at_call 183; refine (rspace_ok _ _).mono ?_; rintro e w2 ⟨rfl, rfl⟩) | (go_at_call 177; refine hd.out.mono ?_; rintro e w2 ⟨rfl, rfl⟩))
            go_roundw
            case rel => exact ⟨k + 1, [], out, A, c, by omega, by go_num, rfl, rfl, hn, by omega, Nat.zero_le _, hown, hb⟩
            case measure => simp [intOf]; omega
          · have hn := hide (hI.out.space (by omega) (fun h => absurd h hlt) (o := out ++ [bs cur]) (finW_new hc hi).symm (by simp; omega))
            have hd := hide (rin_ok A out.length c out (bs cur) wr hSt)
            rw [decide_eq_false hi] at hd
            have hown' := hide hown
            clear hI hSt hi hc hown
            go_wp2_with (first | (go_at_call 183; refine (rspace_ok _ _).mono ?_; rintro e w2 ⟨rfl, rfl⟩) | (go_at_call 177; refine hd.out.mono ?_; rintro e w2 ⟨rfl, rfl⟩) | (at_builtin; refine wpList_pushS rfl _ _ rfl hown'.out (bs cur) _ rfl rfl (by omega) hsz ?_; intro A2 c2 w2 hown2 hg2))
            go_roundw
            case rel => exact ⟨k + 1, [], out ++ [bs cur], A2, c2, by omega, by go_num, rfl, by simp, hn, by simp; omega, Nat.zero_le _, by simpa using hown2, hg2.below (Nat.le_refl _) hb⟩
            case measure => simp [intOf]; omega
      · obtain rfl : k = s.size + 1 := by omega
        have hr : Hid (out = wordsS s) := hI.out.2.1 rfl
        obtain ⟨A', c', he, hc1, hc2, hSt⟩ := hown.isStrs (by omega)
        injection he with he1 he2 he3
        subst he1 he3
        have hSt' := hide hSt
        have hown' := hide hown
        clear hI hSt hown
        go_wp2
        go_ret
        refine ⟨A, c, ?_, ?_, ?_, hb⟩
        · rw [← hr.out]; rfl
        · have := hown'.out; rw [hr.out] at this; exact this
        · have := hSt'.out; rw [hr.out] at this; exact this

theorem cut_word (s : ByteArray) (a b : Nat) : s.extract a b = bs (cutL s a b) := by
  apply Go.WideShapes.bytes_inj
  simp [bs, cutL, ByteArray.data_extract]
set_option maxRecDepth 100000 in
set_option maxHeartbeats 1000000 in
theorem words_ok (s : ByteArray) (w : World) (hs : s.size ≤ 1000) : Calls Tryz.prog 89 #[.string s] w (MadeStrs w (wordsS s)) := by
  go_enter Tryz.func89, Tryz.ntmps89
  go_wp2
  go_step3
  go_wp2
  go_step3
  go_wp2
  go_loopg [3, 4] s.size (fun g v i wr => ∃ (k : Nat) (out : List ByteArray) (A : Option Addr) (c : Nat), k ≤ s.size ∧ s.size ≤ k + g ∧ i = .int .i64 k ∧ v = .slice A out.length c ∧ Hid (splitW (s.data.toList.drop k) [] out = wordsS s) ∧ out.length ≤ k ∧ OwnS wr w.heap.size v out ∧ Below w.heap.size w wr)
  case atStart => exact ⟨0, [], none, 0, Nat.zero_le _, by omega, rfl, rfl, rfl, Nat.le_refl _, OwnS.nil _ _, Below.refl _ _⟩
  case round =>
    obtain ⟨k, out, A, c, hk, hkg, rfl, rfl, hI, hol, hown, hb⟩ := hrel
    have hsz := hb.size
    obtain ⟨A', c', he, hc1, hc2, hSt⟩ := hown.isStrs (by omega)
    injection he with he1 he2 he3
    subst he1 he3
    have hSt' := hide hSt
    have hown' := hide hown
    clear hSt hown
    by_cases hlt : k < s.size
    · obtain ⟨g, rfl⟩ : ∃ g, gk = g + 1 := ⟨gk - 1, by omega⟩
      cases hsp : sp8 (s[k]'hlt)
      · have hsp' : spI (((s[k]'hlt).toNat : Int)) = false := hsp
        go_wp2_with (go_at_call 125; refine (space_ok _ _).mono ?_; rintro e w2 ⟨rfl, rfl⟩)
        obtain ⟨wo, rfl⟩ : ∃ wo : World, wo = wr := ⟨_, rfl⟩
        go_loop [5] (fun i => ∃ m : Nat, k ≤ m ∧ m ≤ s.size ∧ i = .int .i64 m ∧ Hid (∀ j (hj : j < s.size), k ≤ j → j < m → sp8 (s[j]'hj) = false)) (fun i => s.size - (intOf i).toNat)
        case atStart => exact ⟨k, by omega, by omega, rfl, fun j _ h1 h2 => absurd h1 (by omega)⟩
        case round =>
          obtain ⟨m, hkm, hms, rfl, hns⟩ := hrel
          by_cases hm : m < s.size
          · cases hspm : sp8 (s[m]'hm)
            · have hspm' : spI (((s[m]'hm).toNat : Int)) = false := hspm
              have hspm2 := hide hspm
              clear hspm hsp hsp' hI
              go_wp2_with (go_at_call 125; refine (space_ok _ _).mono ?_; rintro e w2 ⟨rfl, rfl⟩)
              go_round
              case rel => exact ⟨m + 1, by omega, by omega, by go_num, fun j hj h1 h2 => by
                by_cases h : j = m
                · subst h; exact hspm2.out
                · exact hns.out j hj h1 (by omega)⟩
              case measure => simp [intOf]; omega
            · have hspm' : spI (((s[m]'hm).toNat : Int)) = true := hspm
              have hkm' : k < m := by
                rcases Nat.lt_or_ge k m with h | h
                · exact h
                · obtain rfl : k = m := by omega
                  rw [hsp] at hspm; cases hspm
              have hn := hide (split_word (by omega) hns.out (fun h => hspm) hI.out)
              clear hspm hsp hsp' hI hns
              go_wp2_with (go_at_call 125; refine (space_ok _ _).mono ?_; rintro e w2 ⟨rfl, rfl⟩)
              rw [cut_word s k m]
              have hne0 : cutL s k m ≠ [] := by
                intro h0
                have := cutL_len (s := s) (a := k) (b := m) (by omega) (by omega)
                rw [h0] at this
                simp at this
                omega
              generalize cutL s k m = cur at hn hne0 ⊢
              go_loopg [41] out.length (fun h x wx => ∃ j : Nat, j ≤ out.length ∧ out.length ≤ j + h ∧ x = .int .i64 j ∧ wx = wo ∧ Hid (∀ q, q < j → sx out q ≠ bs cur))
              case atStart => exact ⟨0, Nat.zero_le _, by omega, rfl, rfl, fun q hq => absurd hq (by omega)⟩
              case round =>
                obtain ⟨j, hjn, hjh, rfl, rfl, hne⟩ := hrel
                by_cases hjl : j < out.length
                · obtain ⟨b, off, rfl, hbl, hc⟩ := hSt'.out.2.2 (by omega)
                  have hck := hc j hjl
                  clear hc
                  by_cases he : sx out j = bs cur
                  · have hin : bs cur ∈ out := sx_in hjl he
                    rw [finW_in hin] at hn
                    have he' := str_eq he
                    clear he hne hin hne0
                    go_wp2
                    go_roundg g
                    case rel => exact ⟨m, out, _, c, by omega, by omega, by go_num, rfl, hn, by omega, hown'.out, hb⟩
                    case measure => omega
                  · have he' := str_ne he
                    have he2 := hide he
                    clear he
                    obtain ⟨h, rfl⟩ : ∃ h, gk = h + 1 := ⟨gk - 1, by omega⟩
                    go_wp2
                    go_roundg h
                    case rel => exact ⟨j + 1, by omega, by omega, by go_num, rfl, fun q hq => by
                      by_cases h : q = j
                      · subst h; exact he2.out
                      · exact hne.out q (by omega)⟩
                    case measure => omega
                · have hni : bs cur ∉ out := sx_out (fun q hq => hne.out q (by omega))
                  rw [finW_new hne0 hni] at hn
                  clear hni hne0 hne
                  go_wp2_with (at_builtin; refine wpList_pushS rfl _ _ rfl hown'.out (bs cur) _ rfl rfl (by omega) hsz ?_; intro A2 c2 w2 hown2 hg2)
                  go_roundg g
                  case rel => exact ⟨m, out ++ [bs cur], A2, c2, by omega, by omega, by go_num, by simp, hn, by simp; omega, by simpa using hown2, hg2.below (Nat.le_refl _) hb⟩
                  case measure => omega
          · obtain rfl : s.size = m := by omega
            have hkm' : k < s.size := hlt
            have hn := hide (split_word (by omega) hns.out (fun h => absurd h (by omega)) hI.out)
            clear hsp hsp' hI hns
            go_wp2_with (go_at_call 125; refine (space_ok _ _).mono ?_; rintro e w2 ⟨rfl, rfl⟩)
            rw [cut_word s k s.size]
            have hne0 : cutL s k s.size ≠ [] := by
              intro h0
              have := cutL_len (s := s) (a := k) (b := s.size) (by omega) (by omega)
              rw [h0] at this
              simp at this
              omega
            generalize cutL s k s.size = cur at hn hne0 ⊢
            go_loopg [41] out.length (fun h x wx => ∃ j : Nat, j ≤ out.length ∧ out.length ≤ j + h ∧ x = .int .i64 j ∧ wx = wo ∧ Hid (∀ q, q < j → sx out q ≠ bs cur))
            case atStart => exact ⟨0, Nat.zero_le _, by omega, rfl, rfl, fun q hq => absurd hq (by omega)⟩
            case round =>
              obtain ⟨j, hjn, hjh, rfl, rfl, hne⟩ := hrel
              by_cases hjl : j < out.length
              · obtain ⟨b, off, rfl, hbl, hc⟩ := hSt'.out.2.2 (by omega)
                have hck := hc j hjl
                clear hc
                by_cases he : sx out j = bs cur
                · have hin : bs cur ∈ out := sx_in hjl he
                  rw [finW_in hin] at hn
                  have he' := str_eq he
                  clear he hne hin hne0
                  go_wp2
                  go_roundg g
                  case rel => exact ⟨s.size, out, _, c, by omega, by omega, by go_num, rfl, hn, by omega, hown'.out, hb⟩
                  case measure => omega
                · have he' := str_ne he
                  have he2 := hide he
                  clear he
                  obtain ⟨h, rfl⟩ : ∃ h, gk = h + 1 := ⟨gk - 1, by omega⟩
                  go_wp2
                  go_roundg h
                  case rel => exact ⟨j + 1, by omega, by omega, by go_num, rfl, fun q hq => by
                    by_cases h : q = j
                    · subst h; exact he2.out
                    · exact hne.out q (by omega)⟩
                  case measure => omega
              · have hni : bs cur ∉ out := sx_out (fun q hq => hne.out q (by omega))
                rw [finW_new hne0 hni] at hn
                clear hni hne0 hne
                go_wp2_with (at_builtin; refine wpList_pushS rfl _ _ rfl hown'.out (bs cur) _ rfl rfl (by omega) hsz ?_; intro A2 c2 w2 hown2 hg2)
                go_roundg g
                case rel => exact ⟨s.size, out ++ [bs cur], A2, c2, by omega, by omega, by go_num, by simp, hn, by simp; omega, by simpa using hown2, hg2.below (Nat.le_refl _) hb⟩
                case measure => omega
      · have hsp' : spI (((s[k]'hlt).toNat : Int)) = true := hsp
        have hn : Hid (splitW (s.data.toList.drop (k + 1)) [] out = wordsS s) := by
          show _ = _
          have := split_space hlt hsp hI.out
          rwa [finW_nil] at this
        clear hI
        go_wp2_with (go_at_call 125; refine (space_ok _ _).mono ?_; rintro e w2 ⟨rfl, rfl⟩)
        go_roundg g
        case rel => exact ⟨k + 1, out, A, c, by omega, by omega, by go_num, rfl, hn, by omega, hown'.out, hb⟩
        case measure => omega
    · obtain rfl : s.size = k := by omega
      have hr : Hid (out = wordsS s) := by
        show _ = _
        have := split_end hI.out
        rwa [finW_nil] at this
      clear hI
      go_wp2
      try rw [Exit.noGoto_ret]
      go_ret
      refine ⟨A, c, ?_, ?_, ?_, hb⟩
      · rw [← hr.out]; rfl
      · have := hown'.out; rw [hr.out] at this; exact this
      · have := hSt'.out; rw [hr.out] at this; exact this
end Go.Proofs.YtljloicgjgbplaaGreat
