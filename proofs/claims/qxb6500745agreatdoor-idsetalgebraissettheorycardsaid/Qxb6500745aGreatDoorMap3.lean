import Derived.Test.Qxb6500745aGreatDoorMap2
namespace Go.Proofs.Qxb6500745aGreatDoor
open Go.RowKit Go.Maps

def PBl (w : World) (P : Prop) (e : Ending) (w' : World) : Prop := ∃ r : Bool, e = .returned (.bool r) ∧ (r = true ↔ P) ∧ Kp [] w w'

set_option maxHeartbeats 1000000 in
theorem subset51 {w : World} {b b2 n n2 : Nat} {zs us : List Int} (h : MapAt w b n zs) (h' : MapAt w b2 n2 us) (hn : n ≤ 1073741824) (hs : ∀ B, SortC B) : Calls Tryz.prog 51 #[.map (some b), .map (some b2)] w (PBl w (∀ x ∈ zs, x ∈ us)) := by
  have hd := diff46 h h' hn hs
  clear h h'
  go_enter Tryz.func51, Tryz.ntmps51
  go_wp2_with fail
  refine hd.mono ?_
  rintro e w0 ⟨m, vs, rfl, hm, hv, _, hk0⟩
  have hso := sorted47 hm (by omega) hs
  clear hm hd
  go_wp2_with fail
  refine hso.mono ?_
  rintro e w1 ⟨v, L, rfl, hrow, hln, _, _, hmem, hk⟩
  obtain ⟨a, c, rfl⟩ := mrow_shape hrow
  have HL : Hid ((∀ x, x ∈ L ↔ x ∈ vs) ∧ (∀ x, x ∈ vs ↔ x ∈ zs ∧ x ∉ us) ∧ Kp [] w w1) := ⟨hmem, hv, hk0.step hk⟩
  clear hso hrow hmem hv hk hk0
  by_cases h0 : L.length = 0
  · rw [h0]
    go_wp2_with fail
    go_ret
    refine ⟨true, rfl, ⟨fun _ x hx => ?_, fun _ => rfl⟩, HL.out.2.2⟩
    apply Classical.byContradiction
    intro hn
    have := (HL.out.1 x).2 ((HL.out.2.1 x).2 ⟨hx, hn⟩)
    rw [List.eq_nil_of_length_eq_zero h0] at this
    simp at this
  · have hd : decide ((L.length : Int) = 0) = false := by simp; intro e; exact h0 (by rw [e]; rfl)
    have HN : Hid (L.length ≠ 0) := h0
    clear h0
    go_wp2_with fail
    go_ret
    refine ⟨_, rfl, ?_, HL.out.2.2⟩
    have h1 : L ≠ [] := fun e => HN.out (by rw [e]; rfl)
    obtain ⟨y, hy⟩ := List.exists_mem_of_ne_nil _ h1
    have := (HL.out.2.1 y).1 ((HL.out.1 y).1 hy)
    constructor
    · intro h; simp at h; exact absurd h h1
    · intro h; exact absurd (h y this.1) this.2

set_option maxHeartbeats 1000000 in
theorem equal49 {w : World} {b b2 n n2 : Nat} {zs us : List Int} (h : MapAt w b n zs) (h' : MapAt w b2 n2 us) (hn : n ≤ 1073741824) (hn2 : n2 ≤ 1073741824) (hs : ∀ B, SortC B) : Calls Tryz.prog 49 #[.map (some b), .map (some b2)] w (PBl w (∀ x, x ∈ zs ↔ x ∈ us)) := by
  have h1 := subset51 h h' hn hs
  have h2 := fun w0 (k : Kp [] w w0) => subset51 (h'.kp k (by simp)) (h.kp k (by simp)) hn2 hs
  clear h h'
  go_enter Tryz.func49, Tryz.ntmps49
  go_wp2_with fail
  refine h1.mono ?_
  rintro e w0 ⟨r, rfl, hr, hk⟩
  have h2' := h2 w0 hk
  clear h2 h1
  have HK : Hid ((r = true ↔ ∀ x ∈ zs, x ∈ us) ∧ Kp [] w w0) := ⟨hr, hk⟩
  clear hr hk
  cases r
  · clear h2'
    go_wp2_with fail
    go_ret
    refine ⟨false, rfl, ⟨fun h => by simp at h, fun h => ?_⟩, HK.out.2⟩
    exact HK.out.1.2 (fun x hx => (h x).1 hx)
  · go_wp2_with fail
    refine h2'.mono ?_
    rintro e w1 ⟨r2, rfl, hr2, hk2⟩
    have HK2 : Hid ((r2 = true ↔ ∀ x ∈ us, x ∈ zs) ∧ Kp [] w0 w1) := ⟨hr2, hk2⟩
    clear hr2 hk2 h2'
    go_wp2_with fail
    go_ret
    refine ⟨r2, rfl, ⟨fun h x => ⟨HK.out.1.1 trivial x, HK2.out.1.1 h x⟩, fun h => ?_⟩, HK.out.2.step HK2.out.2⟩
    exact HK2.out.1.2 (fun x hx => (h x).2 hx)

def PSize (w : World) (zs : List Int) (e : Ending) (w' : World) : Prop := ∃ L : List Int, e = .returned (.int .i64 (L.length : Nat)) ∧ L.Nodup ∧ L.Pairwise (· ≤ ·) ∧ (∀ x, x ∈ L ↔ x ∈ zs) ∧ Kp [] w w'

set_option maxHeartbeats 1000000 in
theorem size53 {w : World} {b n : Nat} {zs : List Int} (h : MapAt w b n zs) (hn : n ≤ 1073741824) (hs : ∀ B, SortC B) : Calls Tryz.prog 53 #[.map (some b)] w (PSize w zs) := by
  have hso := sorted47 h (by omega) hs
  clear h
  go_enter Tryz.func53, Tryz.ntmps53
  go_wp2_with fail
  refine hso.mono ?_
  rintro e w1 ⟨v, L, rfl, hrow, hln, hd, hle, hmem, hk⟩
  obtain ⟨a, c, rfl⟩ := mrow_shape hrow
  clear hso hrow
  have HL : Hid (L.Nodup ∧ L.Pairwise (· ≤ ·) ∧ (∀ x, x ∈ L ↔ x ∈ zs) ∧ Kp [] w w1) := ⟨hd, hle, hmem, hk⟩
  clear hd hle hmem hk
  go_wp2_with fail
  go_ret
  exact ⟨L, rfl, HL.out⟩

end Go.Proofs.Qxb6500745aGreatDoor
