import Derived.Test.Qxb6500745aGreatDoorMach0
namespace Go.Proofs.Qxb6500745aGreatDoor
open Go.RowKit

def opCells (k a b c v u : Int) (xs : Value) : Array Value := #[.int .i64 k, .int .i64 a, .int .i64 b, .int .i64 c, .int .i64 v, .int .i64 u, xs]

def res0 : Array Value := #[.nilIface, .bool false, .int .i64 0, .slice none 0 0, .string ⟨#[]⟩]

structure Pre (w : World) (mb : Nat) (k a b c v u : Int) (xs : Value) (r : Nat) (S : Nat) (W : World) : Prop where
  s : S = w.heap.size
  kp : Kp [] w W
  b0 : Blk W S 24 #[.pointer (some ⟨mb, 0, none⟩)]
  b1 : Blk W (S + 1) 29 (opCells k a b c v u xs)
  b2 : Blk W (S + 1 + 1) 39 res0
  b3 : Blk W (S + 1 + 1 + 1) 3 #[.int .i64 r]

theorem Pre.mk' (w : World) (mb : Nat) (k a b c v u : Int) (xs : Value) (r : Nat) :
    Pre w mb k a b c v u xs r w.heap.size ((((w.alloc (.cells #[.pointer (some ⟨mb, 0, none⟩)] 24)).alloc (.cells (opCells k a b c v u xs) 29)).alloc (.cells res0 39)).alloc (.cells #[.int .i64 r] 3)) where
  s := rfl
  kp := ((((Kp.refl _ _).alloc _).alloc _).alloc _).alloc _
  b0 := (((Blk.new w 24 _).alloc _).alloc _).alloc _
  b1 := by have := ((Blk.new (w.alloc (.cells #[.pointer (some ⟨mb, 0, none⟩)] 24)) 29 (opCells k a b c v u xs)).alloc (.cells res0 39)).alloc (.cells #[.int .i64 r] 3); simpa using this
  b2 := by have := (Blk.new ((w.alloc (.cells #[.pointer (some ⟨mb, 0, none⟩)] 24)).alloc (.cells (opCells k a b c v u xs) 29)) 39 res0).alloc (.cells #[.int .i64 r] 3); simpa using this
  b3 := by have := Blk.new (((w.alloc (.cells #[.pointer (some ⟨mb, 0, none⟩)] 24)).alloc (.cells (opCells k a b c v u xs) 29)).alloc (.cells res0 39)) 3 #[.int .i64 r]; simpa using this

theorem set5 (w : World) (b : Nat) (v0 v1 v2 v3 v4 : Value) : Kp [b] w (((((w.setCell ⟨b, 0, none⟩ v0).setCell ⟨b, 1, none⟩ v1).setCell ⟨b, 2, none⟩ v2).setCell ⟨b, 3, none⟩ v3).setCell ⟨b, 4, none⟩ v4) :=
  (((((Kp.refl _ _).setCell (p := ⟨b, 0, none⟩) (fun _ => by simp) _).setCell (p := ⟨b, 1, none⟩) (fun _ => by simp) _).setCell (p := ⟨b, 2, none⟩) (fun _ => by simp) _).setCell (p := ⟨b, 3, none⟩) (fun _ => by simp) _).setCell (p := ⟨b, 4, none⟩) (fun _ => by simp) _

theorem Pre.step {w W w2 w3 : World} {mb : Nat} {k a b c v u : Int} {xs : Value} {r S : Nat} {pt : Nat → Nat} {D : Nat → DomV} {Z : Nat → List Int} {fp : Nat → List Nat} (P : Pre w mb k a b c v u xs r S W) (M : Mach w mb pt D Z fp) {p : Nat}
    (m : MStep (W.drewN p) mb fp w2) (k3 : Kp [S + 1 + 1] w2 w3) : MStep w mb fp w3 :=
  MStep.around (P.kp.drewN p) m _ k3 (fun x hx => by simp at hx; subst hx; have := P.s; have := P.b2.lt; exact ⟨by omega, this⟩) M.blk.lt (fun i hi x hx => (M.fge i hi x hx).2)

theorem Pre.quiet {w W w3 : World} {mb : Nat} {k a b c v u : Int} {xs : Value} {r S : Nat} (P : Pre w mb k a b c v u xs r S W) {p : Nat} (k3 : Kp [S + 1 + 1] (W.drewN p) w3) : Kp [] w w3 :=
  (P.kp.drewN p).trans k3 (by simp) (fun x hx hl => by simp at hx; subst hx; have := P.s; omega)

theorem Pre.res {w W w2 : World} {mb : Nat} {k a b c v u : Int} {xs : Value} {r S : Nat} {pt : Nat → Nat} {D : Nat → DomV} {Z : Nat → List Int} {fp : Nat → List Nat} (P : Pre w mb k a b c v u xs r S W) (M : Mach w mb pt D Z fp) {p : Nat} {L : List Nat}
    (k2 : Kp L (W.drewN p) w2) (hL : ∀ x ∈ L, x = mb ∨ ∃ j, j < 8 ∧ x ∈ fp j) : Blk w2 (S + 1 + 1) 39 res0 ∧ Blk w2 S 24 #[.pointer (some ⟨mb, 0, none⟩)] ∧ Blk w2 (S + 1 + 1 + 1) 3 #[.int .i64 r] := by
  have hs := P.s
  have h : ∀ x ∈ L, x < S := fun x hx => by
    rcases hL x hx with rfl | ⟨j, hj, hf⟩
    · have := M.blk.lt; omega
    · have := (M.fge j hj x hf).2; omega
  exact ⟨(P.b2.drewN p).kp k2 (fun hx => by have := h _ hx; omega), (P.b0.drewN p).kp k2 (fun hx => by have := h _ hx; omega), (P.b3.drewN p).kp k2 (fun hx => by have := h _ hx; omega)⟩

theorem MStep.dmod {w w' : World} {mb : Nat} {pt : Nat → Nat} {D : Nat → DomV} {Z : Nat → List Int} {fp : Nat → List Nat} (h : Mach w mb pt D Z fp) (r : Nat) (hr : r < 4) (m : DMod w (pt r) (D r) (fp r) w') : MStep w mb fp w' ∧ Kp (fp r) w w' := by
  obtain ⟨D', m1, m2⟩ := h.dmod r hr m
  exact ⟨⟨pt, D', Z, fp, fp r, m1, fun i hi x hx => .inl ⟨i, hi, hx⟩, m2, fun x hx => .inr ⟨r, by omega, hx⟩⟩, m2⟩

theorem MStep.smod {w w' : World} {mb : Nat} {pt : Nat → Nat} {D : Nat → DomV} {Z : Nat → List Int} {fp : Nat → List Nat} (h : Mach w mb pt D Z fp) (r : Nat) (hr : r < 4) {zs : List Int} (m : SMod w (pt (r + 4)) zs (fp (r + 4)) w') : MStep w mb fp w' ∧ Kp (fp (r + 4)) w w' := by
  obtain ⟨Z', fp', m1, m2, m3⟩ := h.smod r hr m
  exact ⟨⟨pt, D, Z', fp', fp (r + 4), m1, fun i hi x hx => (m2 i hi x hx).elim (fun h => .inl ⟨i, hi, h⟩) .inr, m3, fun x hx => .inr ⟨r + 4, by omega, hx⟩⟩, m3⟩

theorem MStep.dnew {w w1 : World} {mb : Nat} {pt : Nat → Nat} {D : Nat → DomV} {Z : Nat → List Int} {fp : Nat → List Nat} (h : Mach w mb pt D Z fp) (r : Nat) (hr : r < 4) {b n : Nat} (m : DNew w n b w1) : MStep w mb fp (w1.setCell ⟨mb, r, none⟩ (bp b)) := by
  obtain ⟨pt', D', fp', m1, m2, m3⟩ := h.dnew r hr m
  exact ⟨pt', D', Z, fp', [mb], m1, fun i hi x hx => (m2 i hi x hx).elim (fun h => .inl ⟨i, hi, h⟩) .inr, m3, fun x hx => .inl (by simpa using hx)⟩

theorem MStep.snew {w w1 : World} {mb : Nat} {pt : Nat → Nat} {D : Nat → DomV} {Z : Nat → List Int} {fp : Nat → List Nat} (h : Mach w mb pt D Z fp) (r : Nat) (hr : r < 4) {b : Nat} {zs : List Int} (m : SNew w zs b w1) (ok : SetOk zs) : MStep w mb fp (w1.setCell ⟨mb, r + 4, none⟩ (bp b)) := by
  obtain ⟨pt', Z', fp', m1, m2, m3⟩ := h.snew r hr m ok
  exact ⟨pt', D, Z', fp', [mb], m1, fun i hi x hx => (m2 i hi x hx).elim (fun h => .inl ⟨i, hi, h⟩) .inr, m3, fun x hx => .inl (by simpa using hx)⟩

end Go.Proofs.Qxb6500745aGreatDoor
