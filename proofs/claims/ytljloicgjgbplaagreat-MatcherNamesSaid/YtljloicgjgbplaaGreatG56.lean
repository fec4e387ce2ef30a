/- What a call has made and will not write again stays as it is, whatever else is written. No condition. -/
import Derived.Test.YtljloicgjgbplaaGreatG55
namespace Go.Proofs.YtljloicgjgbplaaGreat
open Go.RowKit

/-- A later world that has the blocks of F as they were. -/
structure On (F : Nat → Prop) (w W : World) : Prop where
  os : W.os = w.os
  tape : W.tape = w.tape
  output : W.output = w.output
  size : w.heap.size ≤ W.heap.size
  block : ∀ k, F k → W.heap[k]? = w.heap[k]?
theorem On.of {F : Nat → Prop} {B : Nat} {w W : World} (h : Below B w W) (hF : ∀ k, F k → k < B) : On F w W := ⟨h.os, h.tape, h.output, h.size, fun k hk => h.block k (hF k hk)⟩
theorem On.refl (F : Nat → Prop) (w : World) : On F w w := ⟨rfl, rfl, rfl, Nat.le_refl _, fun _ _ => rfl⟩
theorem On.trans {F G : Nat → Prop} {a b c : World} (h : On F a b) (k : On G b c) (hFG : ∀ x, F x → G x) : On F a c := ⟨k.os.trans h.os, k.tape.trans h.tape, k.output.trans h.output, Nat.le_trans h.size k.size, fun x hx => (k.block x (hFG x hx)).trans (h.block x hx)⟩
theorem On.less {F G : Nat → Prop} {a b : World} (h : On G a b) (hFG : ∀ x, F x → G x) : On F a b := ⟨h.os, h.tape, h.output, h.size, fun x hx => h.block x (hFG x hx)⟩
def Sure (F : Nat → Prop) (w : World) (P : World → Prop) : Prop := ∀ W, On F w W → P W
section
variable {F G : Nat → Prop} {w W w' : World} {P Q : World → Prop} {k base : Nat} {v v' : Value}
theorem Sure.on (h : Sure F w P) (k : On F w W) (hFG : ∀ x, F x → G x) : Sure G W P := fun W' hW' => h W' (k.trans hW' hFG)
theorem Sure.here (h : Sure F w P) : P w := h w (On.refl _ _)
theorem Sure.imp (h : Sure F w P) (hPQ : ∀ W, On F w W → P W → Q W) : Sure F w Q := fun W hW => hPQ W hW (h W hW)
/-- What was there, and what the call has made from base on but for the row that is still written. -/
def Fv (k base : Nat) (v : Value) (w : World) (b : Nat) : Prop := b < k ∨ (base ≤ b ∧ b < w.heap.size ∧ v.ownBlock ≠ some b)
def Fz (k base : Nat) (w : World) (b : Nat) : Prop := b < k ∨ (base ≤ b ∧ b < w.heap.size)
theorem Sure.below (h : Sure (Fv k base v w) w P) (hk : k ≤ w.heap.size) (hb : Below w.heap.size w w') : Sure (Fv k base v w') w' P :=
  h.on (On.of hb (fun x hx => hx.elim (fun h => by omega) (fun h => h.2.1))) (fun x hx => hx.imp id (fun ⟨a, b, c⟩ => ⟨a, by have := hb.size; omega, c⟩))
theorem Sure.grow (h : Sure (Fv k base v w) w P) (hg : Grow0 w w' base v v') (hk : k ≤ base) : Sure (Fv k base v' w') w' P := by
  obtain ⟨g1, g2, g3, g4⟩ := hg
  have hb := g1 base w (Nat.le_refl _) (Below.refl _ _)
  refine h.on ⟨hb.os, hb.tape, hb.output, g2, fun x hx => ?_⟩ (fun x hx => ?_)
  · rcases hx with hx | ⟨h1, h2, h3⟩
    · exact hb.block x (by omega)
    · exact g3 x h2 h3
  · rcases hx with hx | ⟨h1, h2, h3⟩
    · exact .inl hx
    · refine .inr ⟨h1, by omega, fun he => ?_⟩
      rcases g4 x he with h5 | h5
      · exact h3 h5
      · omega
theorem Sure.set (h : Sure (Fv k base v w) w P) {g o : Nat} (h1 : k ≤ g) (h2 : g < base) (u : Value) : Sure (Fv k base v (w.setCell ⟨g, o, none⟩ u)) (w.setCell ⟨g, o, none⟩ u) P := by
  refine h.on ⟨rfl, rfl, rfl, by simp [World.setCell], fun x hx => Below.heap_setCell _ _ _ _ ?_⟩ (fun x hx => hx.imp id (fun ⟨a, b, c⟩ => ⟨a, by simpa [World.setCell] using b, c⟩))
  rcases hx with hx | hx
  · show x ≠ g; omega
  · show x ≠ g; have := hx.1; omega
/-- What a call within the round has made, behind it. -/
theorem Sure.call {b0 : Nat} (h : Sure (Fz k b0 w) w P) (hv : ∀ g, v.ownBlock = some g → g < b0) (hb : base ≤ b0) (ho : On (Fz k b0 w) w W) : Sure (Fv k base v W) W P :=
  h.on ho fun x hx => hx.imp id fun ⟨a, b⟩ => ⟨by omega, by have := ho.size; omega, fun he => by have := hv x he; omega⟩
theorem own_on {size n : Nat} {e : TypeId} {xs : List Value} (h : w.ownsRow base e size v n xs) (hb : ∀ g, v.ownBlock = some g → W.heap[g]? = w.heap[g]?) : W.ownsRow base e size v n xs := by
  refine ⟨h.1, h.2.imp id ?_⟩
  rintro ⟨g, cap, cur, rfl, hbb, hg, rest⟩
  exact ⟨g, cap, cur, rfl, hbb, (hb g rfl).trans hg, rest⟩
end
section
variable {X : Type} {V : Lies X} {w : World} {k base : Nat} {v : Value}
theorem OwnSm.sure {S : List Sim} {l : List (SimX X)} (h : OwnSm w base v S) (hf : Sure (Fv k base v w) w (fun W => FitS V W S l)) (hn : S.length ≤ 1000000) : ∃ A c, v = .slice A S.length c ∧ S.length ≤ c ∧ c ≤ 9223372036854775807 ∧ Sure (Fz k base w) w (fun W => IsSimL V W A S.length l) := by
  obtain ⟨A, c, hv, h1, h2, -⟩ := h.isSimL hf.here hn
  refine ⟨A, c, hv, h1, h2, fun W hW => ?_⟩
  have ho : OwnSm W base v S := own_on h (fun g hg => hW.block g (.inr (World.ownsRow.lt h g hg)))
  obtain ⟨A', c', hv', -, -, hI⟩ := ho.isSimL (hf W (hW.less fun x hx => hx.imp id fun h => ⟨h.1, h.2.1⟩)) hn
  rw [hv] at hv'
  injection hv' with e1 e2 e3
  subst e1
  exact hI
theorem OwnC.sure {S : List Duo} {l : List (CompX X)} (h : OwnC w base v S) (hf : Sure (Fv k base v w) w (fun W => FitC V W S l)) (hn : S.length ≤ 1000000) : ∃ A c, v = .slice A S.length c ∧ S.length ≤ c ∧ c ≤ 9223372036854775807 ∧ Sure (Fz k base w) w (fun W => IsParts V W A S.length l) := by
  obtain ⟨A, c, hv, h1, h2, -⟩ := h.isParts hf.here hn
  refine ⟨A, c, hv, h1, h2, fun W hW => ?_⟩
  have ho : OwnC W base v S := own_on h (fun g hg => hW.block g (.inr (World.ownsRow.lt h g hg)))
  obtain ⟨A', c', hv', -, -, hI⟩ := ho.isParts (hf W (hW.less fun x hx => hx.imp id fun h => ⟨h.1, h.2.1⟩)) hn
  rw [hv] at hv'
  injection hv' with e1 e2 e3
  subst e1
  exact hI
theorem OwnX.sure {S : List Trip} {l : List X} (h : OwnX w base v S) (hf : Sure (Fv k base v w) w (fun W => Fit V W S l)) (hn : S.length ≤ 1000000) : ∃ A c, v = .slice A S.length c ∧ S.length ≤ c ∧ c ≤ 9223372036854775807 ∧ Sure (Fz k base w) w (fun W => IsRow V W A S.length l) := by
  obtain ⟨A, c, hv, h1, h2, -⟩ := h.isRow hf.here hn
  refine ⟨A, c, hv, h1, h2, fun W hW => ?_⟩
  have ho : OwnX W base v S := own_on h (fun g hg => hW.block g (.inr (World.ownsRow.lt h g hg)))
  obtain ⟨A', c', hv', -, -, hI⟩ := ho.isRow (hf W (hW.less fun x hx => hx.imp id fun h => ⟨h.1, h.2.1⟩)) hn
  rw [hv] at hv'
  injection hv' with e1 e2 e3
  subst e1
  exact hI
end
end Go.Proofs.YtljloicgjgbplaaGreat
