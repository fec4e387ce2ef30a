/- Walks: whether a complex selector is right, by the program: what is below a list of any kind is given. Conditions as each states. -/
import Derived.Test.YtljloicgjgbplaaGreatG25
import Derived.Test.YtljloicgjgbplaaGreatG23
namespace Go.Proofs.YtljloicgjgbplaaGreat
open Go.RowKit

def hasK (k : Int) (f : Bool) : Bool := if k = 9 ∨ k = 10 then f else decide (11 ≤ k ∧ k ≤ 14)
def emptyK (k : Int) : Bool := !(decide (k = 9 ∨ k = 10) || decide (13 ≤ k ∧ k ≤ 14))
theorem lists_ok (k : Int) (nm : ByteArray) (op : Int) (vl : ByteArray) (fo : Bool) (a b : Int) (f : Bool) (LA : Option Addr) (ln lc : Nat) (w : World) :
    Calls Tryz.prog 109 #[.agg #[.int .u8 k, .string nm, .int .u8 op, .string vl, .bool fo, .int .i64 a, .int .i64 b, .bool f, .slice LA ln lc]] w fun e w' => e = .returned (.tuple #[.bool (hasK k f), .bool (emptyK k)]) ∧ Below w.heap.size w w' := by
  by_cases h : 9 ≤ k ∧ k ≤ 14
  · obtain rfl | rfl | rfl | rfl | rfl | rfl : k = 9 ∨ k = 10 ∨ k = 11 ∨ k = 12 ∨ k = 13 ∨ k = 14 := by omega
    · clear h
      go_enter Tryz.func109, Tryz.ntmps109
      go_wp2
      refine bodyPost_ret (v := .tuple #[.bool f, .bool false]) (by simp [results, Tryz.results109, go_sem]) rfl ⟨?_, below_alloc (Below.refl _ _) _⟩
      rfl
    · clear h
      go_enter Tryz.func109, Tryz.ntmps109
      go_wp2
      refine bodyPost_ret (v := .tuple #[.bool f, .bool false]) (by simp [results, Tryz.results109, go_sem]) rfl ⟨?_, below_alloc (Below.refl _ _) _⟩
      rfl
    · clear h
      go_enter Tryz.func109, Tryz.ntmps109
      go_wp2
      refine bodyPost_ret (v := .tuple #[.bool true, .bool true]) (by simp [results, Tryz.results109, go_sem]) rfl ⟨?_, below_alloc (Below.refl _ _) _⟩
      rfl
    · clear h
      go_enter Tryz.func109, Tryz.ntmps109
      go_wp2
      refine bodyPost_ret (v := .tuple #[.bool true, .bool true]) (by simp [results, Tryz.results109, go_sem]) rfl ⟨?_, below_alloc (Below.refl _ _) _⟩
      rfl
    · clear h
      go_enter Tryz.func109, Tryz.ntmps109
      go_wp2
      refine bodyPost_ret (v := .tuple #[.bool true, .bool false]) (by simp [results, Tryz.results109, go_sem]) rfl ⟨?_, below_alloc (Below.refl _ _) _⟩
      rfl
    · clear h
      go_enter Tryz.func109, Tryz.ntmps109
      go_wp2
      refine bodyPost_ret (v := .tuple #[.bool true, .bool false]) (by simp [results, Tryz.results109, go_sem]) rfl ⟨?_, below_alloc (Below.refl _ _) _⟩
      rfl
  · have h1 : (k == 9) = false := by rw [beq_eq_false_iff_ne]; omega
    have h2 : (k == 10) = false := by rw [beq_eq_false_iff_ne]; omega
    have h3 : (k == 11) = false := by rw [beq_eq_false_iff_ne]; omega
    have h4 : (k == 12) = false := by rw [beq_eq_false_iff_ne]; omega
    have h5 : (k == 13) = false := by rw [beq_eq_false_iff_ne]; omega
    have h6 : (k == 14) = false := by rw [beq_eq_false_iff_ne]; omega
    have hr : Hid (hasK k f = false ∧ emptyK k = true) := by
      refine ⟨?_, ?_⟩
      · unfold hasK; rw [if_neg (by omega), decide_eq_false (by omega)]
      · unfold emptyK; rw [decide_eq_false (by omega), decide_eq_false (by omega)]; rfl
    clear h
    go_enter Tryz.func109, Tryz.ntmps109
    go_wp2
    refine bodyPost_ret (v := .tuple #[.bool false, .bool true]) (by simp [results, Tryz.results109, go_sem]) rfl ⟨?_, below_alloc (Below.refl _ _) _⟩
    rw [hr.out.1, hr.out.2]
/-- The place that comes back, and whether there may be a list. -/
def MadePl (w : World) (d : Nat) (h : Bool) (k : Int) (e : Ending) (w' : World) : Prop :=
  ∃ (d' : Nat) (h' : Bool), e = .returned (.tuple #[.agg #[.int .i64 d', .bool h'], .bool (plB d h k)]) ∧ (plB d h k = true → d' = d + 1 ∧ h' = (h || decide (k = 14))) ∧ Below w.heap.size w w'
theorem placeIn_ok (d : Nat) (h : Bool) (k : Int) (hd : d ≤ 3) (w : World) : Calls Tryz.prog 110 #[.agg #[.int .i64 (d : Int), .bool h], .int .u8 k] w (MadePl w d h k) := by
  by_cases h3 : d = 3
  · subst h3
    go_enter Tryz.func110, Tryz.ntmps110
    go_wp2
    refine bodyPost_ret (v := .tuple #[.agg #[.int .i64 (0 : Nat), .bool false], .bool false]) (by simp [results, Tryz.results110, go_sem]) rfl ?_
    exact ⟨0, false, by simp [plB], fun e => by simp [plB] at e, below_alloc (below_alloc (Below.refl _ _) _) _⟩
  · have g1 : ((d : Int) == 3) = false := by rw [beq_eq_false_iff_ne]; omega
    cases h
    · go_enter Tryz.func110, Tryz.ntmps110
      go_wp2
      refine bodyPost_ret (v := .tuple #[.agg #[.int .i64 ((d + 1 : Nat) : Int), .bool (k == 14)], .bool true]) (by simp [results, Tryz.results110, go_sem]) rfl ?_
      exact ⟨d + 1, k == 14, by simp [plB, h3], fun _ => ⟨rfl, by rw [Bool.eq_iff_iff]; simp⟩, below_alloc (below_alloc (Below.refl _ _) _) _⟩
    · by_cases hk : k = 14
      · subst hk
        go_enter Tryz.func110, Tryz.ntmps110
        go_wp2
        refine bodyPost_ret (v := .tuple #[.agg #[.int .i64 (0 : Nat), .bool false], .bool false]) (by simp [results, Tryz.results110, go_sem]) rfl ?_
        exact ⟨0, false, by simp [plB], fun e => by simp [plB] at e, below_alloc (below_alloc (Below.refl _ _) _) _⟩
      · have g2 : (k == 14) = false := by rw [beq_eq_false_iff_ne]; omega
        go_enter Tryz.func110, Tryz.ntmps110
        go_wp2
        refine bodyPost_ret (v := .tuple #[.agg #[.int .i64 ((d + 1 : Nat) : Int), .bool true], .bool true]) (by simp [results, Tryz.results110, go_sem]) rfl ?_
        exact ⟨d + 1, true, by simp [plB, h3, hk], fun _ => ⟨rfl, rfl⟩, below_alloc (below_alloc (Below.refl _ _) _) _⟩

/-- The answer of an index that is asked for. -/
def MadeIx (w : World) (b : Bool) (e : Ending) (w' : World) : Prop := ∃ z : Int, e = .returned (.int .i64 z) ∧ decide (0 ≤ z) = b ∧ Below w.heap.size w w'
theorem any_hit {X : Type} {l : List X} {p : X → Bool} {q : Nat} {x : X} (h : l[q]? = some x) (hp : p x = true) : l.any p = true := List.any_eq_true.2 ⟨x, List.mem_of_getElem? h, hp⟩
theorem any_miss {X : Type} {l : List X} {p : X → Bool} {n : Nat} (hl : l.length = n) (h : ∀ (j : Nat) (x : X), j < n → l[j]? = some x → p x = false) : l.any p = false := by
  rw [Bool.eq_false_iff, ne_eq, List.any_eq_true]
  rintro ⟨x, hx, hp⟩
  obtain ⟨j, hj, rfl⟩ := List.getElem_of_mem hx
  rw [h j l[j] (by omega) (List.getElem?_eq_getElem hj)] at hp
  cases hp
set_option maxHeartbeats 1000000 in
theorem check1_index {X : Type} {V : Lies X} (hV : Stays V) (A : Option Addr) (n c : Nat) (l : List X) (p : X → Bool)  (w : World) (h : IsRow V w A n l)
    (hcl : ∀ (W : World) (ld : Int) (PA : Option Addr) (pn pc : Nat) (KA : Option Addr) (kn kc : Nat) (x : X), Below w.heap.size w W → V W ld PA pn pc KA kn kc x → Calls Tryz.prog 40 #[.agg #[.int .u8 ld, .slice PA pn pc, .slice KA kn kc]] W fun e w' => e = .returned (.bool (p x)) ∧ Below W.heap.size W w') :
    Calls Tryz.prog 58 #[.slice A n c, .func (.func 40) #[] #[]] w (MadeIx w (l.any p)) := by
  obtain ⟨hl, hn, ho⟩ := h
  have hcl' := hide hcl
  have ho' := hide ho
  clear hcl ho
  go_enter Tryz.func58, Tryz.ntmps58
  go_wp2
  go_loopw [5, 8] (fun _ i wr => ∃ k : Nat, k ≤ n ∧ i = .int .i64 k ∧ Hid (∀ (j : Nat) (x : X), j < k → l[j]? = some x → p x = false) ∧ Below w.heap.size w wr) (fun _ i _ => n - (intOf i).toNat)
  case atStart => exact ⟨0, Nat.zero_le _, rfl, fun j x hj => absurd hj (by omega), Below.refl _ _⟩
  case round =>
    obtain ⟨q, hq, rfl, hne, hb⟩ := hrel
    by_cases hlt : q < n
    · obtain ⟨b, off, rfl, hbl, hc⟩ := ho'.out (by omega)
      obtain ⟨x, hx⟩ : ∃ x, l[q]? = some x := ⟨_, List.getElem?_eq_getElem (by omega)⟩
      obtain ⟨ld, PA, pn, pc, KA, kn, kc, c0, c1, c2, hv⟩ := hc q x hx
      have hx' := hide hx
      have g0 := cell_later hb c0
      have g1 := cell_later hb c1
      have g2 := cell_later hb c2
      have hk := hide (hcl'.out wr ld PA pn pc KA kn kc x hb (hV _ _ _ _ _ _ _ _ _ _ hb hv))
      clear hc hv c0 c1 c2 hx
      cases hp : p x
      · have hp' := hide hp
        rw [hp] at hk
        clear hp
        go_wp2_with (go_at_call 40; (with_reducible refine hk.out.mono ?_); rintro e w1 ⟨rfl, hb1⟩)
        go_roundw
        case rel => exact ⟨q + 1, by omega, by go_num, fun j y hj hy => by
          by_cases h : j = q
          · subst h
            rw [hx'.out] at hy; cases hy; exact hp'.out
          · exact hne.out j y (by omega) hy, Below.on hb hb1⟩
        case measure => simp [intOf]; omega
      · have hp' := hide hp
        rw [hp] at hk
        clear hp
        go_wp2_with (go_at_call 40; (with_reducible refine hk.out.mono ?_); rintro e w1 ⟨rfl, hb1⟩)
        go_ret
        exact ⟨_, rfl, by rw [any_hit hx'.out hp'.out]; simp, Below.on hb hb1⟩
    · obtain rfl : q = n := by omega
      have hm := hide (any_miss hl hne.out)
      clear hne
      go_wp2
      go_ret
      exact ⟨_, rfl, by rw [hm.out]; rfl, hb⟩
theorem check1_any {X : Type} {V : Lies X} (hV : Stays V) (A : Option Addr) (n c : Nat) (l : List X) (p : X → Bool)  (w : World) (h : IsRow V w A n l)
    (hcl : ∀ (W : World) (ld : Int) (PA : Option Addr) (pn pc : Nat) (KA : Option Addr) (kn kc : Nat) (x : X), Below w.heap.size w W → V W ld PA pn pc KA kn kc x → Calls Tryz.prog 40 #[.agg #[.int .u8 ld, .slice PA pn pc, .slice KA kn kc]] W fun e w' => e = .returned (.bool (p x)) ∧ Below W.heap.size W w') :
    Calls Tryz.prog 39 #[.slice A n c, .func (.func 40) #[] #[]] w fun e w' => e = .returned (.bool (l.any p)) ∧ Below w.heap.size w w' := by
  have hx := hide (check1_index hV A n c l p  w h hcl)
  clear h hcl
  go_enter Tryz.func39, Tryz.ntmps39
  go_wp2_with fail
  refine hx.out.mono ?_
  rintro e w1 ⟨z, rfl, hz, hb1⟩
  go_wp2
  go_ret
  exact ⟨rfl, hb1⟩
set_option maxHeartbeats 1000000 in
theorem simple1_index {X : Type} {V : Lies X} (hV : Stays V) (A : Option Addr) (n c : Nat) (l : List X) (p : X → Bool) (pq px : Nat) (w : World) (h : IsRow V w A n l)
    (hcl : ∀ (W : World) (ld : Int) (PA : Option Addr) (pn pc : Nat) (KA : Option Addr) (kn kc : Nat) (x : X), Below w.heap.size w W → V W ld PA pn pc KA kn kc x → Calls Tryz.prog 111 #[.agg #[.int .u8 ld, .slice PA pn pc, .slice KA kn kc], .pointer (some ⟨pq, 0, none⟩), .pointer (some ⟨px, 0, none⟩)] W fun e w' => e = .returned (.bool (p x)) ∧ Below W.heap.size W w') :
    Calls Tryz.prog 58 #[.slice A n c, .func (.func 111) #[] #[.pointer (some ⟨pq, 0, none⟩), .pointer (some ⟨px, 0, none⟩)]] w (MadeIx w (l.any p)) := by
  obtain ⟨hl, hn, ho⟩ := h
  have hcl' := hide hcl
  have ho' := hide ho
  clear hcl ho
  go_enter Tryz.func58, Tryz.ntmps58
  go_wp2
  go_loopw [5, 8] (fun _ i wr => ∃ k : Nat, k ≤ n ∧ i = .int .i64 k ∧ Hid (∀ (j : Nat) (x : X), j < k → l[j]? = some x → p x = false) ∧ Below w.heap.size w wr) (fun _ i _ => n - (intOf i).toNat)
  case atStart => exact ⟨0, Nat.zero_le _, rfl, fun j x hj => absurd hj (by omega), Below.refl _ _⟩
  case round =>
    obtain ⟨q, hq, rfl, hne, hb⟩ := hrel
    by_cases hlt : q < n
    · obtain ⟨b, off, rfl, hbl, hc⟩ := ho'.out (by omega)
      obtain ⟨x, hx⟩ : ∃ x, l[q]? = some x := ⟨_, List.getElem?_eq_getElem (by omega)⟩
      obtain ⟨ld, PA, pn, pc, KA, kn, kc, c0, c1, c2, hv⟩ := hc q x hx
      have hx' := hide hx
      have g0 := cell_later hb c0
      have g1 := cell_later hb c1
      have g2 := cell_later hb c2
      have hk := hide (hcl'.out wr ld PA pn pc KA kn kc x hb (hV _ _ _ _ _ _ _ _ _ _ hb hv))
      clear hc hv c0 c1 c2 hx
      cases hp : p x
      · have hp' := hide hp
        rw [hp] at hk
        clear hp
        go_wp2_with (go_at_call 111; (with_reducible refine hk.out.mono ?_); rintro e w1 ⟨rfl, hb1⟩)
        go_roundw
        case rel => exact ⟨q + 1, by omega, by go_num, fun j y hj hy => by
          by_cases h : j = q
          · subst h
            rw [hx'.out] at hy; cases hy; exact hp'.out
          · exact hne.out j y (by omega) hy, Below.on hb hb1⟩
        case measure => simp [intOf]; omega
      · have hp' := hide hp
        rw [hp] at hk
        clear hp
        go_wp2_with (go_at_call 111; (with_reducible refine hk.out.mono ?_); rintro e w1 ⟨rfl, hb1⟩)
        go_ret
        exact ⟨_, rfl, by rw [any_hit hx'.out hp'.out]; simp, Below.on hb hb1⟩
    · obtain rfl : q = n := by omega
      have hm := hide (any_miss hl hne.out)
      clear hne
      go_wp2
      go_ret
      exact ⟨_, rfl, by rw [hm.out]; rfl, hb⟩
theorem simple1_any {X : Type} {V : Lies X} (hV : Stays V) (A : Option Addr) (n c : Nat) (l : List X) (p : X → Bool) (pq px : Nat) (w : World) (h : IsRow V w A n l)
    (hcl : ∀ (W : World) (ld : Int) (PA : Option Addr) (pn pc : Nat) (KA : Option Addr) (kn kc : Nat) (x : X), Below w.heap.size w W → V W ld PA pn pc KA kn kc x → Calls Tryz.prog 111 #[.agg #[.int .u8 ld, .slice PA pn pc, .slice KA kn kc], .pointer (some ⟨pq, 0, none⟩), .pointer (some ⟨px, 0, none⟩)] W fun e w' => e = .returned (.bool (p x)) ∧ Below W.heap.size W w') :
    Calls Tryz.prog 39 #[.slice A n c, .func (.func 111) #[] #[.pointer (some ⟨pq, 0, none⟩), .pointer (some ⟨px, 0, none⟩)]] w fun e w' => e = .returned (.bool (l.any p)) ∧ Below w.heap.size w w' := by
  have hx := hide (simple1_index hV A n c l p pq px w h hcl)
  clear h hcl
  go_enter Tryz.func39, Tryz.ntmps39
  go_wp2_with fail
  refine hx.out.mono ?_
  rintro e w1 ⟨z, rfl, hz, hb1⟩
  go_wp2
  go_ret
  exact ⟨rfl, hb1⟩
end Go.Proofs.YtljloicgjgbplaaGreat
