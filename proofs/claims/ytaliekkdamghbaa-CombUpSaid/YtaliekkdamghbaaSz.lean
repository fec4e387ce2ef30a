/- From readings to words on memory: how large a tree can be; a list of truth values with its capacity. No condition. -/
import Derived.Test.YtaliekkdamghbaaOpenb
import Derived.SizedLaws
namespace Go.Proofs.Ytaliekkdamghbaa
open Go.ChangeShapes Go.WideShapes Go.ChangeAt Go.RowKit Go.Deep

theorem weight_le {H : Type} {P : Program} {ts : List TypeId} {ds : List (DataW H)} (h : (DataW.weightsEach P ts ds).all (· ≤ reachBytes) = true) {j : Nat} {t : TypeId} {d : DataW H} (ht : ts[j]? = some t) (hd : ds[j]? = some d) : ∀ n ∈ d.weights P t, n ≤ reachBytes := fun n hn => by
  simpa using List.all_eq_true.1 h _ (DataW.weights_mem_each ht hd n hn)
section
variable {H : Type} {enc : TypeId × Value → H} {w : World} {base : Nat} {spare : Nat → Bool} {held : Bool}
theorem node_bytes : Try.prog.bytesOf 59 = 72 := by kernel_rfl
set_option maxRecDepth 100000 in
theorem tree_sized {A : Option Addr} {n c : Nat} {d : DataW H} {p : List MemPlace} (h : DataW.Trod enc Try.prog w base spare held 24 (.agg #[.slice A n c]) d p) (hw : ∀ x ∈ d.weights Try.prog 24, x ≤ reachBytes) : n ≤ 140737488351232 := by
  obtain ⟨fuel, hf⟩ := h
  obtain ⟨xs, m, _, hx, _, hlen, hg⟩ := DataW.trod_struct Try.underlying24 hf
  have h0 := hg 0 _ rfl
  have hk : Try.prog.cellsOf 22 = 1 := by kernel_rfl
  have hxs : xs[0]? = some (xs[0]'(by rw [hlen]; decide)) := List.getElem?_eq_getElem _
  rw [hxs] at h0
  have h0' : DataW.trod enc Try.prog w base spare held m 22 [.slice A n c] = some (xs[0]'(by rw [hlen]; decide)) := by
    have e : ((Value.agg #[.slice A n c]).cells.toList.drop 0).take (Try.prog.cellsOf 22) = [.slice A n c] := by rw [hk]; rfl
    rw [← e]; exact h0
  have hd : d = .agg (xs.map (·.1)) := congrArg Prod.fst hx
  match xs, hlen, h0', hd with
  | [y], _, h0', hd =>
    subst hd
    rcases DataW.trod_slice Try.underlying22 h0' with ⟨h1, h2⟩ | ⟨a, len, cap, elems, rest, m', _, h1, h2, _, _, _, h3, _⟩
    · simp at h1
      omega
    · simp at h1
      obtain ⟨_, rfl, _⟩ := h1
      have hy : y.1 = .slice (elems.map (·.1)) (rest.map (·.1)) := congrArg Prod.fst h2
      have := hw ((elems.length + rest.length) * 72) (by
        rw [List.map_cons, List.map_nil, hy]
        unfold DataW.weights
        rw [Try.underlying24]
        simp only [List.map_cons, List.map_nil, DataW.weightsEach, DataW.weights, Try.underlying22, node_bytes, List.length_map]
        simp)
      unfold reachBytes at this
      omega
set_option maxRecDepth 100000 in
/-- A parameter that is a []bool, with its capacity. -/
theorem bools_param2 {r : Reach} {b0 : Nat} {v : Value} {d : DataW H} {p : List MemPlace} (hv : Value.okWide Try.prog w r b0 31 v) (h : DataW.Trod enc Try.prog w base spare held 31 v d p) :
    ∃ (A : Option Addr) (len cap : Nat) (xs : List Bool), v = .slice A len cap ∧ (len ≤ cap ∧ cap ≤ 9223372036854775807) ∧ IsBools w A len xs := by
  obtain ⟨A, len, cap, rfl⟩ := okWide_slice Try.underlying31 hv
  obtain ⟨fuel, hf⟩ := h
  obtain ⟨A', len', cap', xs, e, h1, h2, hx⟩ := bools_open (v := .slice A len cap) hf
  unfold maxLen at h2
  exact ⟨A', len', cap', xs, e, ⟨h1, by omega⟩, hx⟩
end
end Go.Proofs.Ytaliekkdamghbaa
