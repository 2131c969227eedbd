import Derived.Test.Qxb6500745aGreatDoorMach2
namespace Go.Proofs.Qxb6500745aGreatDoor
open Go.RowKit

structure PreS (w : World) (k a b c v u : Int) (xs : Value) (S : Nat) (W : World) : Prop where
  s : S = w.heap.size
  kp : Kp [] w W
  b1 : Blk W S 29 (opCells k a b c v u xs)
  b2 : Blk W (S + 1) 39 res0

theorem PreS.mk' (w : World) (k a b c v u : Int) (xs : Value) :
    PreS w k a b c v u xs w.heap.size ((w.alloc (.cells (opCells k a b c v u xs) 29)).alloc (.cells res0 39)) where
  s := rfl
  kp := ((Kp.refl _ _).alloc _).alloc _
  b1 := (Blk.new w 29 _).alloc _
  b2 := by have := Blk.new (w.alloc (.cells (opCells k a b c v u xs) 29)) 39 res0; simpa using this

theorem PreS.step {w W w2 w3 : World} {mb : Nat} {k a b c v u : Int} {xs : Value} {S : Nat} {pt : Nat → Nat} {D : Nat → DomV} {Z : Nat → List Int} {fp : Nat → List Nat} (P : PreS w k a b c v u xs S W) (M : Mach w mb pt D Z fp) {p : Nat}
    (m : MStep (W.drewN p) mb fp w2) (k3 : Kp [S + 1] w2 w3) : MStep w mb fp w3 :=
  MStep.around (P.kp.drewN p) m _ k3 (fun x hx => by simp at hx; subst hx; have := P.s; have := P.b2.lt; exact ⟨by omega, this⟩) M.blk.lt (fun i hi x hx => (M.fge i hi x hx).2)

theorem PreS.quiet {w W w3 : World} {k a b c v u : Int} {xs : Value} {S : Nat} (P : PreS w k a b c v u xs S W) {p : Nat} (k3 : Kp [S + 1] (W.drewN p) w3) : Kp [] w w3 :=
  (P.kp.drewN p).trans k3 (by simp) (fun x hx hl => by simp at hx; subst hx; have := P.s; omega)

theorem PreS.res {w W w2 : World} {mb : Nat} {k a b c v u : Int} {xs : Value} {S : Nat} {pt : Nat → Nat} {D : Nat → DomV} {Z : Nat → List Int} {fp : Nat → List Nat} (P : PreS w k a b c v u xs S W) (M : Mach w mb pt D Z fp) {p : Nat} {L : List Nat}
    (k2 : Kp L (W.drewN p) w2) (hL : ∀ x ∈ L, x = mb ∨ ∃ j, j < 8 ∧ x ∈ fp j) : Blk w2 (S + 1) 39 res0 := by
  have hs := P.s
  have h : ∀ x ∈ L, x < S := fun x hx => by
    rcases hL x hx with rfl | ⟨j, hj, hf⟩
    · have := M.blk.lt; omega
    · have := (M.fge j hj x hf).2; omega
  exact (P.b2.drewN p).kp k2 (fun hx => by have := h _ hx; omega)

theorem SNew.kp0 {w w1 w2 : World} {zs : List Int} {b : Nat} (m : SNew w zs b w1) (k : Kp [] w1 w2) : SNew w zs b w2 := by
  obtain ⟨f, m1, m4, m5⟩ := m
  exact ⟨f, m1.kp k (by simp), m4, m5.step k⟩

theorem Mach.sets2 {w : World} {mb : Nat} {pt : Nat → Nat} {D : Nat → DomV} {Z : Nat → List Int} {fp : Nat → List Nat} (M : Mach w mb pt D Z fp) {i j : Nat} (hi : i < 4) (hj : j < 4) : (pt (i + 4) = pt (j + 4) ∧ Z i = Z j) ∨ ∀ x ∈ fp (j + 4), x ∉ fp (i + 4) := by
  by_cases e : i = j
  · subst e; exact .inl ⟨rfl, rfl⟩
  · exact .inr (fun x hx => M.apart _ _ (by omega) (by omega) (by omega) x hx)

end Go.Proofs.Qxb6500745aGreatDoor
