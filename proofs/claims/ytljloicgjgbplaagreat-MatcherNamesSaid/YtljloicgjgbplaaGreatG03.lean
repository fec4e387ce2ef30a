/- Walks: the top, being below, the depth, by the program. No condition. -/
import Derived.Test.YtljloicgjgbplaaGreatG02
import Derived.Shelf.Strings.Search3
import Derived.Shelf.Strings.Prefix
import Derived.Shelf.Small.Strs
import Derived.Test.YtljloicgjgbplaaGreatG01
namespace Go.Proofs.YtljloicgjgbplaaGreat
open Go.RowKit

theorem isInts_build1 (W : World) (g : Nat) (t : TypeId) (x : Int) (hg : g = W.heap.size) : IsInts (W.alloc (.cells #[.int .i64 x] t)) (some ⟨g, 0, none⟩) 1 [x] := by
  subst hg
  refine ⟨rfl, by omega, fun _ => ⟨_, _, rfl, by simp, fun j hj => ?_⟩⟩
  obtain rfl : j = 0 := by omega
  simp [ix]
theorem asked_ok (A B : Option Addr) (n c m d : Nat) (T : List ANode) (l : List Int) (w : World) (h : IsTree w A n T) (h' : IsInts w B m l) :
    Calls Tryz.prog 63 #[.agg #[.slice A n c], .slice B m d] w fun e w' => e = .returned (.int .i64 (askI T l)) ∧ Below w.heap.size w w' := by
  have hT := hide h
  obtain ⟨hl, hn, -, -⟩ := h
  obtain ⟨hl', hn', ho'⟩ := h'
  have ho := hide ho'
  clear ho'
  by_cases hg : goodB T = true
  · have hc0 : chk T = 0 := chk_ok hg
    go_enter Tryz.func63, Tryz.ntmps63
    go_wp2_with (go_at_call 65; refine (check_ok _ _ _ T _ (hT.out.below (below_alloc (Below.refl _ _) _))).mono ?_; rintro e w1 ⟨rfl, hb1⟩; have hbox := cell_later hb1 (a := ⟨w.heap.size, 0, none⟩) (v := .slice A n c) (by go_simp))
    have hb := Below.on (below_alloc (Below.refl _ _) _) hb1
    go_loop [15] (fun s => ∃ k : Nat, k ≤ m ∧ s = .int .i64 k ∧ ∀ j, j < k → 0 ≤ ix l j ∧ ix l j < n) (fun s => m - (intOf s).toNat)
    case atStart => exact ⟨0, Nat.zero_le _, rfl, fun j hj => absurd hj (by omega)⟩
    case round =>
      obtain ⟨k, hk, rfl, hne⟩ := hrel
      have hne' := hide hne
      clear hne
      by_cases hlt : k < m
      · obtain ⟨b, off, rfl, hbl, hcc⟩ := ho.out (by omega)
        have gk := (old hb _ _ hbl).trans (hcc k hlt)
        clear hcc
        by_cases hx : 0 ≤ ix l k ∧ ix l k < n
        · obtain ⟨hx1, hx2⟩ := hx
          go_wp2
          go_round
          case rel => exact ⟨k + 1, by omega, by go_num, fun j hj => by
            by_cases h : j = k
            · subst h; exact ⟨hx1, hx2⟩
            · exact hne'.out j (by omega)⟩
          case measure => simp [intOf]; omega
        · have hr : Hid (askI T l = 2) := askI_no hg _ (ix_mem (by omega : k < l.length)) (by rw [hl]; exact hx)
          have hx' : ix l k < 0 ∨ (0 ≤ ix l k ∧ (n : Int) ≤ ix l k) := by omega
          clear hx
          rcases hx' with h | ⟨h, h'⟩
          all_goals
            go_wp2
            go_ret
            exact ⟨ret_int hr.out.symm, hb⟩
      · have hr : Hid (askI T l = 0) := askI_ok hg fun x hx => by
          obtain ⟨j, hj, rfl⟩ := mem_ix hx
          rw [hl]; exact hne'.out j (by omega)
        go_wp2
        go_ret
        exact ⟨ret_int hr.out.symm, hb⟩
  · have hc0 : chk T = 8 := chk_bad hg
    have hr := hide (askI_bad (l := l) hg)
    clear hg
    go_enter Tryz.func63, Tryz.ntmps63
    go_wp2_with (go_at_call 65; refine (check_ok _ _ _ T _ (hT.out.below (below_alloc (Below.refl _ _) _))).mono ?_; rintro e w1 ⟨rfl, hb1⟩)
    go_ret
    exact ⟨ret_int hr.out.symm, Below.on (below_alloc (Below.refl _ _) _) hb1⟩

def topE (T : List ANode) (i : Int) : Int := if askI T [i] = 0 then topF T i else 0
def depE (T : List ANode) (i : Int) : Int := if askI T [i] = 0 then ((anc T (par T i.toNat)).length : Nat) else 0
theorem ret_two {k k' : IntKind} {a b c d : Int} (h : a = b) (h' : c = d) : Ending.returned (.tuple #[.int k a, .int k' c]) = .returned (.tuple #[.int k b, .int k' d]) := by rw [h, h']
theorem ret_bi {k' : IntKind} {a b : Bool} {c d : Int} (h : a = b) (h' : c = d) : Ending.returned (.tuple #[.bool a, .int k' c]) = .returned (.tuple #[.bool b, .int k' d]) := by rw [h, h']

theorem depth_ok (A : Option Addr) (n c : Nat) (T : List ANode) (i : Int) (w : World) (h : IsTree w A n T) :
    Calls Tryz.prog 44 #[.agg #[.slice A n c], .int .i64 i] w fun e w' => e = .returned (.tuple #[.int .i64 (depE T i), .int .i64 (askI T [i])]) ∧ Below w.heap.size w w' := by
  have hT := hide h
  obtain ⟨hl, hn, -, ho⟩ := h
  by_cases h0 : askI T [i] = 0
  · obtain ⟨hg, hir⟩ := askI_zero.1 h0
    have hir := hir i (by simp)
    obtain ⟨k, rfl⟩ := Int.eq_ofNat_of_zero_le hir.1
    have hk : k < n := by omega
    obtain ⟨b, off, aA, cA, aC, cC, rfl, hbl, -, -, c2, -, -, -⟩ := ho (by omega)
    have c2' := hide c2
    have gk0 := c2 k hk
    have hg' := hide hg
    have hr : Hid (depE T k = ((anc T (par T k)).length : Nat)) := by show depE T k = _; simp [depE, h0]
    have hle : (anc T (par T k)).length ≤ n := by have := anc_le hg (good_par hg (by omega : k < T.length)).2; omega
    have hn64 : n ≤ 64 := by have := ((goodB_iff T).1 hg).2.1; omega
    have hpk := good_par hg (by omega : k < T.length)
    have hpk' := hide hpk
    clear c2 ho hir hg hpk
    go_enter Tryz.func44, Tryz.ntmps44
    go_wp2_with (go_at_call 63; refine (asked_ok _ _ _ _ _ _ T [(k : Int)] _ (hT.out.below (below_alloc (below_alloc (Below.refl _ _) _) _)) (isInts_build1 _ _ _ _ (by simp))).mono ?_; rintro e w1 ⟨rfl, hb1⟩; have hbox := cell_later hb1 (a := ⟨w.heap.size, 0, none⟩) (v := .slice (some ⟨b, off, none⟩) n c) (by go_simp); have gk := cell_later (Below.on (below_alloc (below_alloc (Below.refl _ _) _) _) hb1) gk0)
    have hb := Below.on (below_alloc (below_alloc (Below.refl _ _) _) _) hb1
    go_loop [7, 8] (fun s q => ∃ (m : Nat) (x : Int), s = .int .i64 m ∧ q = .int .i64 x ∧ -1 ≤ x ∧ x < n ∧ m + (anc T x).length = (anc T (par T k)).length) (fun _ q => (anc T (intOf q)).length)
    case atStart => exact ⟨0, _, rfl, rfl, hpk'.out.1, by have := hpk'.out.2; omega, by omega⟩
    case round =>
      obtain ⟨m, x, rfl, rfl, hx1, hx2, hm⟩ := hrel
      have hm' := hide hm
      have hml : m ≤ n := by omega
      clear hm
      by_cases hx : 0 ≤ x
      · obtain ⟨q, rfl⟩ := Int.eq_ofNat_of_zero_le hx
        have hq : q < n := by omega
        have gq := (old hb _ _ hbl).trans (c2'.out q hq)
        have ht := hide (anc_cons hg'.out (by omega : q < T.length))
        have hp := hide (good_par hg'.out (by omega : q < T.length))
        go_wp2
        go_round
        case rel => exact ⟨m + 1, _, by go_num, rfl, hp.out.1, by have := hp.out.2; omega, by have := hm'.out; rw [ht.out, List.length_cons] at this; omega⟩
        case measure => simp only [intOf]; rw [ht.out]; simp
      · have ht := hide (anc_neg (T := T) (x := x) (by omega))
        go_wp2
        go_ret2
        exact ⟨ret_two (by have := hm'.out; rw [ht.out] at this; rw [hr.out]; simp at this; omega) rfl, hb⟩
  · have hr : Hid (depE T i = 0) := if_neg h0
    have hq : (askI T [i] != 0) = true := by simp [h0]
    clear h0 ho
    go_enter Tryz.func44, Tryz.ntmps44
    go_wp2_with (go_at_call 63; refine (asked_ok _ _ _ _ _ _ T [i] _ (hT.out.below (below_alloc (below_alloc (Below.refl _ _) _) _)) (isInts_build1 _ _ _ _ (by simp))).mono ?_; rintro e w1 ⟨rfl, hb1⟩)
    go_ret2
    exact ⟨ret_two hr.out.symm rfl, Below.on (below_alloc (below_alloc (Below.refl _ _) _) _) hb1⟩

end Go.Proofs.YtljloicgjgbplaaGreat
/- The contracts of strings.Contains, HasPrefix, HasSuffix and IndexByte at this program, laid by a tool of the kit. Conditions: as each states. -/
namespace Go.Proofs.YtljloicgjgbplaaGreat
open Go.Shelf Go.RowKit
def Tryz.lays137_ren : Go.Shelf.Ren := ⟨fun | 137 => 146 | 217 => 163 | 266 => 176 | n => n, fun | 9 => 9 | 5 => 5 | 3 => 3 | n => n, fun | n => n⟩
theorem Tryz.lays137 : Go.Proofs.Lays.n137 Tryz.prog Tryz.lays137_ren := {
  mixed := by kernel_rfl
  f137 := Tryz.func146.trans (congrArg some (by kernel_rfl))
  f217 := Tryz.func163.trans (congrArg some (by kernel_rfl))
  f266 := Tryz.func176.trans (congrArg some (by kernel_rfl))
  t3 := Tryz.underlying3
  a3 := Tryz.isAgg3
  z3 := Tryz.sizeOf3
  v3 := Tryz.zeroValue3
  t5 := Tryz.underlying5
  a5 := Tryz.isAgg5
  z5 := Tryz.sizeOf5
  v5 := Tryz.zeroValue5
  t9 := Tryz.underlying9
  a9 := Tryz.isAgg9
  z9 := Tryz.sizeOf9
  v9 := Tryz.zeroValue9 }
open Go.RowKit in
theorem Tryz.strings_IndexByte (s : ByteArray) (c : Int) (w : World) :
    Calls Tryz.prog 146 #[.string s, .int .u8 c] w fun e w' => e = .returned (.int .i64 (Lib.indexByte s.data.toList c.toNat.toUInt8)) ∧ w' = w := Any.strings_IndexByte Tryz.lays137 s c w
def Tryz.lays144_ren : Go.Shelf.Ren := ⟨fun | 144 => 94 | 143 => 128 | 219 => 154 | 217 => 163 | 225 => 170 | 224 => 171 | 267 => 172 | 266 => 176 | 314 => 181 | n => n, fun | 9 => 9 | 4 => 4 | 3 => 3 | 5 => 5 | 46 => 180 | 146 => 197 | 51 => 196 | n => n, fun | 1 => 0 | n => n⟩
theorem Tryz.lays144 : Go.Proofs.Lays.n144 Tryz.prog Tryz.lays144_ren := {
  mixed := by kernel_rfl
  f143 := Tryz.func128.trans (congrArg some (by kernel_rfl))
  f144 := Tryz.func94.trans (congrArg some (by kernel_rfl))
  f217 := Tryz.func163.trans (congrArg some (by kernel_rfl))
  f219 := Tryz.func154.trans (congrArg some (by kernel_rfl))
  f224 := Tryz.func171.trans (congrArg some (by kernel_rfl))
  f225 := Tryz.func170.trans (congrArg some (by kernel_rfl))
  f266 := Tryz.func176.trans (congrArg some (by kernel_rfl))
  f267 := Tryz.func172.trans (congrArg some (by kernel_rfl))
  f314 := Tryz.func181.trans (congrArg some (by kernel_rfl))
  t3 := Tryz.underlying3
  a3 := Tryz.isAgg3
  z3 := Tryz.sizeOf3
  v3 := Tryz.zeroValue3
  t4 := Tryz.underlying4
  a4 := Tryz.isAgg4
  z4 := Tryz.sizeOf4
  v4 := Tryz.zeroValue4
  t5 := Tryz.underlying5
  a5 := Tryz.isAgg5
  z5 := Tryz.sizeOf5
  v5 := Tryz.zeroValue5
  t9 := Tryz.underlying9
  a9 := Tryz.isAgg9
  z9 := Tryz.sizeOf9
  v9 := Tryz.zeroValue9
  t46 := Tryz.underlying180
  a46 := Tryz.isAgg180
  z46 := Tryz.sizeOf180
  v46 := Tryz.zeroValue180
  t51 := Tryz.underlying196
  a51 := Tryz.isAgg196
  z51 := Tryz.sizeOf196
  v51 := Tryz.zeroValue196
  t146 := Tryz.underlying197
  a146 := Tryz.isAgg197
  z146 := Tryz.sizeOf197
  v146 := Tryz.zeroValue197
  g1 := by kernel_rfl }
open Go.RowKit Go.Lib in
theorem Tryz.strings_Contains (s sub : ByteArray) (m : Int) (w : World) (hs : s.size < 4294967281) (hm : w.cell? ⟨0, 0, none⟩ = some (.int .i64 m)) :
    Calls Tryz.prog 94 #[.string s, .string sub] w fun e w' => e = .returned (.bool (Lib.contains s.data.toList sub.data.toList)) ∧ w' = w := Any.strings_Contains Tryz.lays144 s sub m w hs hm
def Tryz.lays99_ren : Go.Shelf.Ren := ⟨fun | 99 => 91 | 206 => 126 | n => n, fun | 9 => 9 | 4 => 4 | 3 => 3 | n => n, fun | n => n⟩
theorem Tryz.lays99 : Go.Proofs.Lays.n99 Tryz.prog Tryz.lays99_ren := {
  mixed := by kernel_rfl
  f99 := Tryz.func91.trans (congrArg some (by kernel_rfl))
  f206 := Tryz.func126.trans (congrArg some (by kernel_rfl))
  t3 := Tryz.underlying3
  a3 := Tryz.isAgg3
  z3 := Tryz.sizeOf3
  v3 := Tryz.zeroValue3
  t4 := Tryz.underlying4
  a4 := Tryz.isAgg4
  z4 := Tryz.sizeOf4
  v4 := Tryz.zeroValue4
  t9 := Tryz.underlying9
  a9 := Tryz.isAgg9
  z9 := Tryz.sizeOf9
  v9 := Tryz.zeroValue9 }
open Go.RowKit Go.Lib in
theorem Tryz.strings_HasPrefix (s p : ByteArray) (w : World) :
    Calls Tryz.prog 91 #[.string s, .string p] w fun e w' => e = .returned (.bool (Lib.hasPrefix s.data.toList p.data.toList)) ∧ w' = w := Any.strings_HasPrefix Tryz.lays99 s p w
def Tryz.lays100_ren : Go.Shelf.Ren := ⟨fun | 100 => 93 | 207 => 127 | n => n, fun | 9 => 9 | 4 => 4 | 3 => 3 | n => n, fun | n => n⟩
theorem Tryz.lays100 : Go.Proofs.Lays.n100 Tryz.prog Tryz.lays100_ren := {
  mixed := by kernel_rfl
  f100 := Tryz.func93.trans (congrArg some (by kernel_rfl))
  f207 := Tryz.func127.trans (congrArg some (by kernel_rfl))
  t3 := Tryz.underlying3
  a3 := Tryz.isAgg3
  z3 := Tryz.sizeOf3
  v3 := Tryz.zeroValue3
  t4 := Tryz.underlying4
  a4 := Tryz.isAgg4
  z4 := Tryz.sizeOf4
  v4 := Tryz.zeroValue4
  t9 := Tryz.underlying9
  a9 := Tryz.isAgg9
  z9 := Tryz.sizeOf9
  v9 := Tryz.zeroValue9 }
open Go.RowKit Go.Lib in
theorem Tryz.strings_HasSuffix (s p : ByteArray) (w : World) (hs : s.size ≤ 9223372036854775807) :
    Calls Tryz.prog 93 #[.string s, .string p] w fun e w' => e = .returned (.bool (Lib.hasSuffix s.data.toList p.data.toList)) ∧ w' = w := Any.strings_HasSuffix Tryz.lays100 s p w hs
/-- The variable of the library that strings.Contains reads holds a number. -/
def HasMax (w : World) : Prop := ∃ m, w.cell? ⟨0, 0, none⟩ = some (.int .i64 m)
theorem HasMax.below {w w' : World} (h : HasMax w) (hb : Below w.heap.size w w') : HasMax w' := by
  obtain ⟨m, hm⟩ := h
  exact ⟨m, cell_later hb hm⟩
theorem contStr_ok (s sub : ByteArray) (w : World) (hs : s.size ≤ 1000) (hm : HasMax w) :
    Calls Tryz.prog 94 #[.string s, .string sub] w fun e w' => e = .returned (.bool (Lib.contains s.data.toList sub.data.toList)) ∧ w' = w := by
  obtain ⟨m, hm⟩ := hm
  exact Tryz.strings_Contains s sub m w (by omega) hm
end Go.Proofs.YtljloicgjgbplaaGreat
