import Derived.Test.Qxb6500745aGreatDoorSet3
namespace Go.Proofs.Qxb6500745aGreatDoor
open Go.RowKit

theorem clone_xs {B : Nat} {w : World} {v : Value} {zs : List Int} (h : XsAt B w v zs) (hz : zs ≠ []) (hl : zs.length ≤ 2097152) :
    Calls Tryz.prog 32 #[v] w fun e w' => ∃ a c f, e = .returned (.slice a zs.length c) ∧ IRow w' (.slice a zs.length c) zs f ∧ a ≠ none ∧ (∀ x ∈ f, w.heap.size ≤ x) ∧ Kp [] w w' := by
  rcases h with ⟨rfl, _⟩ | ⟨b, off, c, rfl, hb, hc⟩
  · exact absurd rfl hz
  · refine (Tryz.slices_Clone_int b off zs.length c zs w (Nat.le_refl _) (by omega) (fun j hj => by rw [hc j hj]; simp [hj])).mono ?_
    rintro e w' ⟨v', rfl, hr, hne, hB⟩
    rw [List.take_length] at hr
    obtain ⟨f2, hr2, hf2⟩ := IRow.of_owns hr
    obtain ⟨a2, c2, rfl⟩ := hr2.shape
    refine ⟨a2, c2, f2, rfl, hr2, fun e => ?_, hf2, Kp.of_below hB _⟩
    rcases hr2 with ⟨_, h0, _⟩ | ⟨g, cap, cur, h1, _⟩
    · exact hz h0
    · simp at h1; rw [h1.1] at e; cases e

def PFromIDs (w : World) (bad : Prop) (ev : Value) (e : Ending) (w' : World) : Prop :=
  (¬ bad ∧ ∃ b' zs', e = .returned (.tuple #[.pointer (some ⟨b', 0, none⟩), .nilIface]) ∧ SNew w zs' b' w' ∧ SetOk zs') ∨ (bad ∧ e = .returned (.tuple #[.pointer none, ev]) ∧ Kp [] w w')

set_option maxHeartbeats 1000000 in
theorem s_fromIDs {ea : Nat → Addr} {w : World} {B : Nat} (G : Glob ea w) (v : Value) (zs : List Int) (hx : XsAt B w v zs) (hz : zs.length ≤ 65536) :
    Calls Tryz.prog 84 #[v] w (PFromIDs w (∃ x ∈ zs, badID x) (errV ea 0)) := by
  obtain ⟨a, c, rfl⟩ := hx.shape
  have he := G.err 0 (by omega)
  have h8 := G.size
  go_enter Tryz.func84, Tryz.ntmps84
  go_wp2
  go_loop [9, 5] (fun i _ => ∃ k : Nat, k ≤ zs.length ∧ i = .int .i64 k ∧ ∀ x ∈ zs.take k, ¬ badID x) (fun i _ => zs.length - (intOf i).toNat)
  case atStart => exact ⟨0, Nat.zero_le _, rfl, by simp⟩
  case round =>
    obtain ⟨k, hk, rfl, hall⟩ := hrel
    have HALL : Hid (∀ x ∈ zs.take k, ¬ badID x) := hall
    clear hall
    by_cases hlt : k < zs.length
    · obtain ⟨bx, off, rfl, hcell⟩ := hx.get k hlt
      have hvd := validID_any zs[k] w
      have HTS : Hid (zs.take (k + 1) = zs.take k ++ [zs[k]]) := List.take_succ_eq_append_getElem hlt
      have hmem : zs[k] ∈ zs := List.getElem_mem _
      clear hx
      generalize zs[k] = z at *
      by_cases hr : badID z
      · rw [show decide (0 ≤ z ∧ z ≤ 1048575) = false from decide_eq_false hr] at hvd
        clear HTS
        go_wp2_with fail
        refine hvd.mono ?_
        rintro e w2 ⟨rfl, h2⟩
        rw [h2]
        clear h2 w2
        go_wp2_with fail
        go_quiet (fail)
        go_wp2_with fail
        go_ret2
        exact .inr ⟨⟨z, hmem, hr⟩, rfl, Kp.dN _ _⟩
      · rw [show decide (0 ≤ z ∧ z ≤ 1048575) = true from decide_eq_true (Decidable.not_not.1 hr)] at hvd
        have HR : Hid (¬ badID z) := hr
        clear hr hmem
        go_wp2_with fail
        refine hvd.mono ?_
        rintro e w2 ⟨rfl, h2⟩
        rw [h2]
        clear h2 w2
        go_wp2_with fail
        go_round
        case rel => exact ⟨k + 1, by omega, by go_num, by rw [HTS.out]; intro x hx; rcases List.mem_append.1 hx with h | h; exact HALL.out x h; simp at h; subst h; exact HR.out⟩
        case measure => simp [intOf]; omega
    · have htk : zs.take k = zs := List.take_of_length_le (by omega)
      have HOK : Hid (∀ x ∈ zs, ¬ badID x) := by have := HALL.out; rw [htk] at this; exact this
      clear HALL htk
      by_cases h0 : zs = []
      · subst h0
        clear hx hz he hk hlt
        go_wp2_with fail
        go_ret2
        refine .inl ⟨by simp, w.heap.size, [], rfl, ⟨[w.heap.size], SetAt.mk (Blk.new w 62 #[.slice none 0 0]) (.inl ⟨rfl, rfl, rfl⟩) (by simp) (by simpa using h8), by simp, (Kp.refl _ _).alloc _⟩, SetOk.nil⟩
      · have hcl := clone_xs hx h0 (by omega)
        have hq : ((zs.length : Int) == 0) = false := by
          cases zs with
          | nil => exact absurd rfl h0
          | cons z zs => simp; omega
        have H0 : Hid (zs ≠ []) := h0
        clear hx h0 he
        go_wp2_with fail
        refine hcl.mono ?_
        rintro e w2 ⟨a2, c2, f2, rfl, hr2, ha2, hf2, k2⟩
        have hs2 := sort_row hr2 (by simp [ha2]) (by omega)
        have hsz2 := k2.size
        clear hcl
        go_wp2_with fail
        refine hs2.mono ?_
        rintro e w3 ⟨rfl, hr3, k3⟩
        have hsl : (zs.mergeSort fun x y => decide (x ≤ y)).length = zs.length := by simp
        have hco := compact_ok (zs.mergeSort fun x y => decide (x ≤ y)) (sort_le zs) (fun x hx => by have := HOK.out x (by simpa using hx); exact Decidable.not_not.1 this) (fun e => H0.out (by have := congrArg List.length e; rw [hsl] at this; exact List.eq_nil_of_length_eq_zero this))
        have hc3 := compact_row hr3 (by simp [ha2]) (by omega) hco.2.1
        have HCO : Hid (SetOk (Lib.compact (zs.mergeSort fun x y => decide (x ≤ y)))) := hco.1
        have HNE : Hid (Lib.compact (zs.mergeSort fun x y => decide (x ≤ y)) ≠ []) := hco.2.2
        clear hs2 hr2 hsl hco
        generalize Lib.compact (zs.mergeSort fun x y => decide (x ≤ y)) = zs' at *
        have hsz3 := k3.size
        go_wp2_with fail
        refine hc3.mono ?_
        rintro e w4 ⟨a4, n4, c4, f4, rfl, hn4, hr4, hf4, k4, ha4⟩
        have hsz4 := k4.size
        clear hc3 hr3 hn4
        go_wp2_with fail
        go_ret2
        have hf4' : ∀ x ∈ f4, w.heap.size ≤ x := fun x hx => by
          rcases hf4 x hx with h | h
          · exact hf2 x h
          · omega
        refine .inl ⟨by rintro ⟨x, hx, hb⟩; exact HOK.out x hx hb, w4.heap.size, zs', rfl, ⟨w4.heap.size :: f4, SetAt.mk (Blk.new w4 62 _) (hr4.kp ((Kp.refl [] w4).alloc _) (by simp)) (slice_nil_iff ha4 HNE.out) ?_, ?_, ?_⟩, HCO.out⟩
        · intro x hx
          rcases List.mem_cons.1 hx with rfl | hx
          · omega
          · have := hf4' x hx; omega
        · intro x hx
          rcases List.mem_cons.1 hx with rfl | hx
          · omega
          · exact hf4' x hx
        · exact ((k2.trans (M := []) k3 (fun _ h => by cases h) (fun x hx hlt => by have := hf2 x hx; omega)).trans k4 (fun _ h => by cases h) (fun x hx hlt => by have := hf2 x hx; omega)).alloc _
end Go.Proofs.Qxb6500745aGreatDoor
