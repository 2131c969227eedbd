import Derived.Test.Qxb6500745aGreatDoorDom10
namespace Go.Proofs.Qxb6500745aGreatDoor
open Go.RowKit

def XsAt (B : Nat) (w : World) (v : Value) (zs : List Int) : Prop :=
  (zs = [] ∧ ∃ a c, v = .slice a 0 c) ∨ ∃ b off c, v = .slice (some ⟨b, off, none⟩) zs.length c ∧ b < B ∧ ∀ j (h : j < zs.length), w.cell? ⟨b, off + j, none⟩ = some (.int .i64 zs[j])

theorem XsAt.kp {B : Nat} {w w' : World} {v : Value} {zs : List Int} {L : List Nat} (h : XsAt B w v zs) (k : Kp L w w') (hB : B ≤ w.heap.size) (hL : ∀ x ∈ L, B ≤ x) : XsAt B w' v zs := by
  rcases h with h | ⟨b, off, c, hv, hb, hc⟩
  · exact .inl h
  · exact .inr ⟨b, off, c, hv, hb, fun j hj => (k.cell (p := ⟨b, off + j, none⟩) (by show b < _; omega) (fun e => by have := hL b e; omega)).trans (hc j hj)⟩

theorem XsAt.shape {B : Nat} {w : World} {v : Value} {zs : List Int} (h : XsAt B w v zs) : ∃ a c, v = .slice a zs.length c := by
  rcases h with ⟨rfl, a, c, h⟩ | ⟨b, off, c, hv, _⟩
  · exact ⟨a, c, h⟩
  · exact ⟨_, c, hv⟩

theorem XsAt.get {B : Nat} {w : World} {a : Option Addr} {n c : Nat} {zs : List Int} (h : XsAt B w (.slice a n c) zs) (k : Nat) (hk : k < zs.length) :
    ∃ b off, a = some ⟨b, off, none⟩ ∧ w.cell? ⟨b, off + k, none⟩ = some (.int .i64 zs[k]) := by
  rcases h with ⟨rfl, _⟩ | ⟨b, off, c, hv, hb, hc⟩
  · simp at hk
  · simp at hv
    exact ⟨b, off, hv.1, hc k hk⟩

set_option maxHeartbeats 400000 in
theorem d_newFull {ea : Nat → Addr} {w : World} (G : Glob ea w) (width : Int) :
    Calls Tryz.prog 58 #[.int .i64 width] w (PNew w width (badW width) (errV ea 1)) := by
  have h0 := d_newEmpty G width
  by_cases ho : badW width
  · have h1 := h0.mono (R' := fun e w' => e = .returned (.tuple #[.pointer none, .iface 110 (.pointer (some (ea 1)))]) ∧ Kp [] w w') (by
      rintro e w' (⟨h, _⟩ | ⟨_, rfl, k⟩)
      · exact absurd ho h
      · exact ⟨rfl, k⟩)
    clear h0
    go_enter Tryz.func58, Tryz.ntmps58
    go_wp2_with (go_at_call 57; refine h1.mono ?_; rintro e w1 ⟨rfl, k1⟩)
    go_ret2
    exact .inr ⟨ho, rfl, k1⟩
  · have h1 := h0.mono (R' := fun e w' => ∃ b', e = .returned (.tuple #[.pointer (some ⟨b', 0, none⟩), .nilIface]) ∧ DNew w width.toNat b' w') (by
      rintro e w' (⟨_, b', rfl, k⟩ | ⟨h, _⟩)
      · exact ⟨b', rfl, k⟩
      · exact absurd h ho)
    clear h0
    go_enter Tryz.func58, Tryz.ntmps58
    go_wp2_with (go_at_call 57; refine h1.mono ?_; rintro e w1 ⟨b', rfl, D, fp, hD, ok, hw, hfp, k1⟩)
    have h2 := d_fill hD ok
    go_wp2_with (go_at_call 72; refine h2.mono ?_; rintro e w2 ⟨rfl, D', hD', ok', hw', k2⟩)
    go_ret2
    exact .inl ⟨ho, b', rfl, D', fp, hD', ok', by rw [hw', hw], hfp, k1.trans k2 (fun _ h => by cases h) (fun x hx hlt => by have := hfp x hx; omega)⟩

def PFrom (ea : Nat → Addr) (w : World) (width : Int) (bad : Prop) (e : Ending) (w' : World) : Prop :=
  (¬ bad ∧ ∃ b', e = .returned (.tuple #[.pointer (some ⟨b', 0, none⟩), .nilIface]) ∧ DNew w width.toNat b' w') ∨ (bad ∧ ∃ i, e = .returned (.tuple #[.pointer none, errV ea i]) ∧ Kp [] w w')

set_option maxHeartbeats 400000 in
theorem d_fromValues {ea : Nat → Addr} {w : World} {B : Nat} (G : Glob ea w) (width : Int) (v : Value) (zs : List Int) (hx : XsAt B w v zs) (hB : B ≤ w.heap.size) (hz : zs.length ≤ 65536) :
    Calls Tryz.prog 59 #[.int .i64 width, v] w (PFrom ea w width (badW width ∨ ∃ x ∈ zs, ¬ (0 ≤ x ∧ x < width))) := by
  have h0 := d_newEmpty G width
  obtain ⟨a, c, rfl⟩ := hx.shape
  by_cases ho : badW width
  · have h1 := h0.mono (R' := fun e w' => e = .returned (.tuple #[.pointer none, .iface 110 (.pointer (some (ea 1)))]) ∧ Kp [] w w') (by
      rintro e w' (⟨h, _⟩ | ⟨_, rfl, k⟩)
      · exact absurd ho h
      · exact ⟨rfl, k⟩)
    clear h0
    go_enter Tryz.func59, Tryz.ntmps59
    go_wp2_with (go_at_call 57; refine h1.mono ?_; rintro e w1 ⟨rfl, k1⟩)
    go_ret2
    exact .inr ⟨.inl ho, 1, rfl, k1⟩
  · have h1 := h0.mono (R' := fun e w' => ∃ b', e = .returned (.tuple #[.pointer (some ⟨b', 0, none⟩), .nilIface]) ∧ DNew w width.toNat b' w') (by
      rintro e w' (⟨_, b', rfl, k⟩ | ⟨h, _⟩)
      · exact ⟨b', rfl, k⟩
      · exact absurd h ho)
    clear h0
    have hoo := Decidable.not_not.1 ho
    go_enter Tryz.func59, Tryz.ntmps59
    go_wp2_with (go_at_call 57; refine h1.mono ?_; rintro e w1 ⟨b', rfl, D0, fp, hD0, ok0, hw0, hfp, k1⟩)
    go_loopw [22] (fun i wr => ∃ k : Nat, k ≤ zs.length ∧ i = .int .i64 k ∧ (∀ x ∈ zs.take k, 0 ≤ x ∧ x < width) ∧ ∃ D, DomAt wr b' D fp ∧ DomOk D ∧ D.width = width.toNat ∧ Kp [] w wr) (fun i _ => zs.length - (intOf i).toNat)
    case atStart => exact ⟨0, Nat.zero_le _, rfl, by simp, D0, hD0, ok0, hw0, k1⟩
    case round =>
      clear h1 hD0 ok0 hw0 k1
      obtain ⟨k, hk, rfl, hall, D, hD, ok, hw, kp⟩ := hrel
      have Gr := G.kp kp (fun _ h => by cases h)
      have HALL : Hid (∀ x ∈ zs.take k, 0 ≤ x ∧ x < width) := hall
      have HW : Hid (D.width = width.toNat) := hw
      have HO : Hid (0 ≤ width ∧ width ≤ 4096) := hoo
      clear hall hw hoo
      by_cases hlt : k < zs.length
      · obtain ⟨bx, off, rfl, hcell⟩ := (hx.kp kp hB (fun _ h => by cases h)).get k hlt
        have hins := d_insert Gr hD ok zs[k]
        have hts : zs.take (k + 1) = zs.take k ++ [zs[k]] := List.take_succ_eq_append_getElem hlt
        have HTS : Hid (zs.take (k + 1) = zs.take k ++ [zs[k]]) := hts
        have hmem : zs[k] ∈ zs := List.getElem_mem _
        clear hts hx
        generalize zs[k] = z at *
        by_cases hr : outR D z
        · have hr' : ¬ (0 ≤ z ∧ z < width) := fun h => hr (by have := HW.out; have := HO.out; omega)
          have hi2 := hins.mono (R' := fun e w' => e = .returned (.tuple #[.bool false, .iface 110 (.pointer (some (ea 2)))]) ∧ Kp [] wr w') (by
            rintro e w' (⟨h, _⟩ | ⟨_, rfl, k⟩)
            · exact absurd hr h
            · exact ⟨rfl, k⟩)
          clear hins Gr hD
          go_wp2_with (go_at_call 61; refine hi2.mono ?_; rintro e w2 ⟨rfl, k2⟩)
          go_ret2
          exact .inr ⟨.inr ⟨z, hmem, hr'⟩, 2, rfl, kp.step k2⟩
        · have hr' : 0 ≤ z ∧ z < width := by have := Decidable.not_not.1 hr; have := HW.out; have := HO.out; omega
          have hi2 := hins.mono (R' := fun e w' => ∃ r : Bool, e = .returned (.tuple #[.bool r, .nilIface]) ∧ DMod wr b' D fp w') (by
            rintro e w' (⟨_, h⟩ | ⟨h, _⟩)
            · exact h
            · exact absurd h hr)
          have HR : Hid (0 ≤ z ∧ z < width) := hr'
          clear hins Gr hD hr hr' hmem
          go_wp2_with (go_at_call 61; refine hi2.mono ?_; rintro e w2 ⟨r, rfl, D', hD', ok', hw', k2⟩)
          go_roundw
          case rel => exact ⟨k + 1, by omega, by go_num, by rw [HTS.out]; intro x hx; rcases List.mem_append.1 hx with h | h; exact HALL.out x h; simp at h; subst h; exact HR.out, D', hD', ok', by rw [hw', HW.out], kp.trans k2 (fun _ h => by cases h) (fun x hx hlt => by have := hfp x hx; omega)⟩
          case measure => simp [intOf]; omega
      · have : zs.take k = zs := List.take_of_length_le (by omega)
        go_wp2
        go_ret2
        refine .inl ⟨?_, b', rfl, D, fp, hD, ok, HW.out, hfp, kp⟩
        rintro (h | ⟨x, hx, h⟩)
        · exact ho h
        · exact h (HALL.out x (by rw [this]; exact hx))
end Go.Proofs.Qxb6500745aGreatDoor
