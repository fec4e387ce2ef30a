/- Plain laws: the words of a text: none is empty, none has a space, no two are the same; the words of the words in a row are the same. No condition. -/
import Derived.Test.YtfiiikbbiimdiaaFe
namespace Go.Proofs.Ytfiiikbbiimdiaa
open Go.RowKit

def goodW (x : ByteArray) : Prop := x.data.toList ≠ [] ∧ ∀ c ∈ x.data.toList, sp8 c = false
theorem bs_data (l : List UInt8) : (bs l).data.toList = l := by simp [bs]
theorem finW_good {out : List ByteArray} {cur : List UInt8} (h : ∀ x ∈ out, goodW x) (hc : ∀ c ∈ cur, sp8 c = false) : ∀ x ∈ finW out cur, goodW x := by
  unfold finW
  split
  · exact h
  · rename_i hn
    intro x hx
    rcases List.mem_append.1 hx with hx | hx
    · exact h x hx
    · rw [List.mem_singleton.1 hx]
      exact ⟨by rw [bs_data]; exact fun e => hn (.inl e), by rw [bs_data]; exact hc⟩
theorem split_good (l : List UInt8) : ∀ (cur : List UInt8) (out : List ByteArray), (∀ x ∈ out, goodW x) → (∀ c ∈ cur, sp8 c = false) → ∀ x ∈ splitW l cur out, goodW x := by
  induction l with
  | nil => intro cur out h hc; exact finW_good h hc
  | cons c l ih =>
    intro cur out h hc
    unfold splitW
    split
    · exact ih _ _ (finW_good h hc) (by simp)
    · rename_i hn
      refine ih _ _ h fun d hd => ?_
      rcases List.mem_append.1 hd with hd | hd
      · exact hc d hd
      · rw [List.mem_singleton.1 hd]; simpa using hn
theorem finW_nodup {out : List ByteArray} (h : out.Nodup) (cur : List UInt8) : (finW out cur).Nodup := by
  unfold finW
  split
  · exact h
  · rename_i hn
    rw [List.nodup_append]
    refine ⟨h, by simp, fun x hx y hy e => ?_⟩
    rw [List.mem_singleton.1 hy] at e
    exact hn (.inr (e ▸ hx))
theorem split_nodup (l : List UInt8) : ∀ (cur : List UInt8) (out : List ByteArray), out.Nodup → (splitW l cur out).Nodup := by
  induction l with
  | nil => intro cur out h; exact finW_nodup h cur
  | cons c l ih =>
    intro cur out h
    unfold splitW
    split
    · exact ih _ _ (finW_nodup h cur)
    · exact ih _ _ h
def jl (out : List ByteArray) : Nat := (out.map fun x => x.size + 1).sum
theorem finW_jl (out : List ByteArray) (cur : List UInt8) : jl (finW out cur) ≤ jl out + cur.length + 1 := by
  unfold finW
  split
  · omega
  · unfold jl; simp [bs_size]; omega
theorem split_jl (l : List UInt8) : ∀ (cur : List UInt8) (out : List ByteArray), jl (splitW l cur out) ≤ jl out + cur.length + l.length + 1 := by
  induction l with
  | nil => intro cur out; have := finW_jl out cur; simpa [splitW] using this
  | cons c l ih =>
    intro cur out
    unfold splitW
    have h1 := finW_jl out cur
    split
    · have := ih [] (finW out cur); simp at this ⊢; omega
    · have := ih (cur ++ [c]) out; simp at this ⊢; omega
/-- Words in a row, a space between two. -/
def joinB : List ByteArray → List UInt8
  | [] => []
  | [w] => w.data.toList
  | w :: v :: r => w.data.toList ++ 32 :: joinB (v :: r)
theorem joinB_snoc (l : List ByteArray) (w : ByteArray) : joinB (l ++ [w]) = if l = [] then w.data.toList else joinB l ++ 32 :: w.data.toList := by
  induction l with
  | nil => simp [joinB]
  | cons x l ih =>
    cases l with
    | nil => simp [joinB]
    | cons y r =>
      simp only [List.cons_append, joinB] at ih ⊢
      rw [ih]; simp
theorem joinB_len (l : List ByteArray) : l ≠ [] → (joinB l).length + 1 = jl l := by
  induction l with
  | nil => intro h; exact absurd rfl h
  | cons x l ih =>
    intro _
    have hx : x.data.toList.length = x.size := by simp
    cases l with
    | nil => simp [joinB, jl]
    | cons y r =>
      have := ih (by simp)
      unfold jl at this ⊢
      simp only [joinB, List.length_append, List.length_cons, List.map_cons, List.sum_cons, hx] at this ⊢
      omega
theorem sp32 : sp8 32 = true := by decide
theorem split_join (Ws : List ByteArray) : ∀ (out : List ByteArray), (∀ x ∈ Ws, goodW x) → Ws.Nodup → (∀ x ∈ Ws, x ∉ out) → splitW (joinB Ws) [] out = out ++ Ws := by
  induction Ws with
  | nil => intro out _ _ _; simp [joinB, splitW, finW_nil]
  | cons w Ws ih =>
    intro out hg hn ho
    have hw := hg w (by simp)
    have hfin : finW out w.data.toList = out ++ [w] := by
      rw [finW_new hw.1 (by rw [bs_list]; exact ho w (by simp)), bs_list]
    have hn' := List.nodup_cons.1 hn
    cases Ws with
    | nil =>
      have := splitW_run w.data.toList [] [] out hw.2
      rw [List.append_nil, List.nil_append] at this
      simp only [joinB]
      rw [this]
      simp only [splitW]
      exact hfin
    | cons v r =>
      simp only [joinB]
      rw [splitW_run w.data.toList _ [] out hw.2, List.nil_append]
      have : splitW (32 :: joinB (v :: r)) w.data.toList out = splitW (joinB (v :: r)) [] (finW out w.data.toList) := by
        rw [splitW, if_pos sp32]
      rw [this, hfin, ih (out ++ [w]) (fun x hx => hg x (by simp [hx])) hn'.2 (fun x hx hmem => ?_)]
      · simp
      · rcases List.mem_append.1 hmem with hm | hm
        · exact ho x (by simp [hx]) hm
        · rw [List.mem_singleton.1 hm] at hx; exact hn'.1 hx
theorem words_good (s : ByteArray) : ∀ x ∈ wordsS s, goodW x := split_good _ _ _ (by simp) (by simp)
theorem words_nodup (s : ByteArray) : (wordsS s).Nodup := split_nodup _ _ _ (by simp)
theorem words_join (s : ByteArray) : wordsS (bs (joinB (wordsS s))) = wordsS s := by
  have := split_join (wordsS s) [] (words_good s) (words_nodup s) (by simp)
  rw [List.nil_append] at this
  rw [wordsS, bs_data]; exact this
theorem words_size (s : ByteArray) : (joinB (wordsS s)).length ≤ s.size := by
  by_cases h : wordsS s = []
  · rw [h]; simp [joinB]
  · have h1 := joinB_len _ h
    have h2 : jl (wordsS s) ≤ 0 + 0 + s.data.toList.length + 1 := split_jl s.data.toList [] []
    have h3 : s.data.toList.length = s.size := by simp
    omega
theorem words_len (s : ByteArray) : (wordsS s).length ≤ s.size + 1 := by
  have h2 : jl (wordsS s) ≤ 0 + 0 + s.data.toList.length + 1 := split_jl s.data.toList [] []
  have h3 : s.data.toList.length = s.size := by simp
  have h4 : ∀ l : List ByteArray, l.length ≤ jl l := fun l => by
    induction l with
    | nil => simp [jl]
    | cons x l ih => unfold jl at ih ⊢; simp only [List.map_cons, List.sum_cons, List.length_cons]; omega
  have := h4 (wordsS s)
  omega
end Go.Proofs.Ytfiiikbbiimdiaa
