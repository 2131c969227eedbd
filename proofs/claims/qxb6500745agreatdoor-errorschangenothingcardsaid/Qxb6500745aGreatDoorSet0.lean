import Derived.Test.Qxb6500745aGreatDoorStr2
import Derived.Test.Qxb6500745aGreatDoorLst
namespace Go.Proofs.Qxb6500745aGreatDoor
open Go.RowKit

def SetAt (w : World) (b : Nat) (zs : List Int) (fp : List Nat) : Prop :=
  ∃ v f, Blk w b 62 #[v] ∧ IRow w v zs f ∧ (v = .slice none 0 0 ↔ zs = []) ∧ fp = b :: f ∧ ∀ x ∈ fp, 8 ≤ x

theorem IRow.ne {w : World} {v : Value} {zs : List Int} {f : List Nat} (h : IRow w v zs f) {b : Nat} {T : TypeId} {vs : Array Value} (hb : Blk w b T vs) (hT : T ≠ 3) : b ∉ f := by
  rcases h with ⟨_, _, rfl⟩ | ⟨g, cap, cur, h1, rfl, h3, h4⟩
  · simp
  · have := hb.ne h3 hT; simpa using this

theorem SetAt.kp {w w' : World} {b : Nat} {zs : List Int} {fp L : List Nat} (h : SetAt w b zs fp) (k : Kp L w w') (hd : ∀ x ∈ fp, x ∉ L) : SetAt w' b zs fp := by
  obtain ⟨v, f, h1, h2, h3, rfl, h4⟩ := h
  exact ⟨v, f, h1.kp k (hd b (by simp)), h2.kp k (fun x hx => hd x (by simp [hx])), h3, rfl, h4⟩

theorem SetAt.lt {w : World} {b : Nat} {zs : List Int} {fp : List Nat} (h : SetAt w b zs fp) : ∀ x ∈ fp, x < w.heap.size := by
  obtain ⟨v, f, h1, h2, h3, rfl, h4⟩ := h
  intro x hx
  rcases List.mem_cons.1 hx with rfl | hx
  · exact h1.lt
  · exact h2.lt x hx

theorem SetAt.ge {w : World} {b : Nat} {zs : List Int} {fp : List Nat} (h : SetAt w b zs fp) : ∀ x ∈ fp, 8 ≤ x := by
  obtain ⟨v, f, h1, h2, h3, rfl, h4⟩ := h
  exact h4

theorem SetAt.op {w : World} {b : Nat} {zs : List Int} {fp : List Nat} (h : SetAt w b zs fp) :
    ∃ a c f, Blk w b 62 #[.slice a zs.length c] ∧ w.cell? ⟨b, 0, none⟩ = some (.slice a zs.length c) ∧ w.frozen? ⟨b, 0, none⟩ = false ∧ IRow w (.slice a zs.length c) zs f ∧ (Value.slice a zs.length c = .slice none 0 0 ↔ zs = []) ∧ fp = b :: f := by
  obtain ⟨v, f, h1, h2, h3, rfl, h4⟩ := h
  obtain ⟨a, c, rfl⟩ := h2.shape
  exact ⟨a, c, f, h1, by rw [h1.cell]; rfl, h1.frozen 0, h2, h3, rfl⟩

theorem SetAt.mk {w : World} {b : Nat} {zs : List Int} {f : List Nat} {v : Value} (h1 : Blk w b 62 #[v]) (h2 : IRow w v zs f) (h3 : v = .slice none 0 0 ↔ zs = []) (h4 : ∀ x ∈ b :: f, 8 ≤ x) : SetAt w b zs (b :: f) := ⟨v, f, h1, h2, h3, rfl, h4⟩

def PClone (w : World) (v : Value) (zs : List Int) (e : Ending) (w' : World) : Prop := ∃ v' f, e = .returned v' ∧ IRow w' v' zs f ∧ (v' = .slice none 0 0 ↔ v = .slice none 0 0) ∧ (∀ x ∈ f, w.heap.size ≤ x) ∧ Kp [] w w'

theorem clone_row {w : World} {v : Value} {zs : List Int} {f : List Nat} (h : IRow w v zs f) (hl : zs.length ≤ 2097152) : Calls Tryz.prog 32 #[v] w (PClone w v zs) := by
  rcases h with ⟨rfl, rfl, rfl⟩ | ⟨g, cap, cur, rfl, rfl, h3, h4, h5, h6, h7⟩
  · refine (Tryz.slices_Clone_int_nil 0 0 w).mono ?_
    rintro e w' ⟨rfl, rfl⟩
    exact ⟨_, [], rfl, .inl ⟨rfl, rfl, rfl⟩, Iff.rfl, by simp, Kp.refl _ _⟩
  · refine (Tryz.slices_Clone_int g 0 zs.length cap zs w (Nat.le_refl _) (by omega) (fun j hj => ?_)).mono ?_
    · rw [Nat.zero_add, IRow.cellAt h3 h7 j hj]; simp [hj]
    · rintro e w' ⟨v', rfl, hr, hne, hB⟩
      rw [List.take_length] at hr
      obtain ⟨f2, hr2, hf2⟩ := IRow.of_owns hr
      exact ⟨v', f2, rfl, hr2, ⟨fun h => absurd h hne, fun h => by simp at h⟩, hf2, Kp.of_below hB _⟩

theorem search_row {w : World} {v : Value} {zs : List Int} {f : List Nat} (h : IRow w v zs f) (hs : SetOk zs) (x : Int) :
    Calls Tryz.prog 111 #[v, .int .i64 x] w fun e w' => e = .returned (.tuple #[.int .i64 (zs.countP (· < x) : Nat), .bool (zs.contains x)]) ∧ ∃ q, w' = w.drewN q := by
  have hl := hs.len
  rcases h with ⟨rfl, rfl, rfl⟩ | ⟨g, cap, cur, rfl, rfl, h3, h4, h5, h6, h7⟩
  · refine (Tryz.slices_BinarySearch_int_empty none 0 x w).mono ?_
    rintro e w' ⟨rfl, rfl⟩
    exact ⟨rfl, 0, rfl⟩
  · have := Tryz.slices_BinarySearch_int g 0 zs.length cap zs x w (Nat.le_refl _) (by omega) (fun j hj => by rw [Nat.zero_add, IRow.cellAt h3 h7 j hj]; simp [hj]) (by rw [List.take_length]; exact hs.le)
    rw [List.take_length] at this
    exact this

set_option maxHeartbeats 400000 in
theorem validID_any (x : Int) (w : World) :
    Calls Tryz.prog 34 #[.int .i64 x] w fun e w' => e = .returned (.bool (decide (0 ≤ x ∧ x ≤ 1048575))) ∧ w' = w := by
  by_cases h0 : 0 ≤ x
  · go_enter Tryz.func34, Tryz.ntmps34
    go_wp2
    all_goals go_ret
    exact ⟨by simp [h0], rfl⟩
  · go_enter Tryz.func34, Tryz.ntmps34
    go_wp2
    all_goals go_ret
    exact ⟨by simp; omega, rfl⟩

def badID (x : Int) : Prop := ¬ (0 ≤ x ∧ x ≤ 1048575)

set_option maxHeartbeats 400000 in
theorem s_ids {w : World} {b : Nat} {zs : List Int} {fp : List Nat} (h : SetAt w b zs fp) (ok : SetOk zs) : Calls Tryz.prog 13 #[.pointer (some ⟨b, 0, none⟩)] w (PFresh w zs) := by
  obtain ⟨a, c, f, h1, hc, _, h2, h3, h4⟩ := h.op
  have hl := ok.len
  have hcl := clone_row h2 (by omega)
  clear h h1 h2 h3 ok
  go_enter Tryz.func13, Tryz.ntmps13
  go_wp2_with fail
  refine hcl.mono ?_
  rintro e w2 ⟨v', f2, rfl, hr, _, hf2, k2⟩
  obtain ⟨a2, c2, rfl⟩ := hr.shape
  go_wp2_with fail
  go_ret
  exact ⟨_, f2, rfl, hr, hf2, k2⟩

def SNew (w : World) (zs : List Int) (b : Nat) (w' : World) : Prop := ∃ fp, SetAt w' b zs fp ∧ (∀ x ∈ fp, w.heap.size ≤ x) ∧ Kp [] w w'

set_option maxHeartbeats 400000 in
theorem s_clone {w : World} {b : Nat} {zs : List Int} {fp : List Nat} (hs : 8 ≤ w.heap.size) (h : SetAt w b zs fp) (ok : SetOk zs) :
    Calls Tryz.prog 48 #[.pointer (some ⟨b, 0, none⟩)] w fun e w' => ∃ b', e = .returned (.pointer (some ⟨b', 0, none⟩)) ∧ SNew w zs b' w' := by
  obtain ⟨a, c, f, h1, hc, _, h2, h3, h4⟩ := h.op
  have hl := ok.len
  have hcl := clone_row h2 (by omega)
  have H3 : Hid (Value.slice a zs.length c = .slice none 0 0 ↔ zs = []) := h3
  clear h h1 h2 h3 ok
  go_enter Tryz.func48, Tryz.ntmps48
  go_wp2_with fail
  refine hcl.mono ?_
  rintro e w2 ⟨v', f2, rfl, hr, hv, hf2, k2⟩
  have HV : Hid (v' = .slice none 0 0 ↔ Value.slice a zs.length c = .slice none 0 0) := hv
  obtain ⟨a2, c2, rfl⟩ := hr.shape
  clear hv
  go_wp2_with fail
  go_ret
  have hk := k2.size
  refine ⟨_, rfl, w2.heap.size :: f2, SetAt.mk (Blk.new w2 62 _) (hr.kp ((Kp.refl [] w2).alloc _) (by simp)) (HV.out.trans H3.out) ?_, ?_, k2.alloc _⟩
  · intro x hx
    rcases List.mem_cons.1 hx with rfl | hx
    · omega
    · have := hf2 x hx; omega
  · intro x hx
    rcases List.mem_cons.1 hx with rfl | hx
    · omega
    · exact hf2 x hx

set_option maxHeartbeats 400000 in
theorem s_len {w : World} {b : Nat} {zs : List Int} {fp : List Nat} (h : SetAt w b zs fp) :
    Calls Tryz.prog 15 #[.pointer (some ⟨b, 0, none⟩)] w fun e w' => e = .returned (.int .i64 (zs.length : Nat)) ∧ w' = w := by
  obtain ⟨a, c, f, h1, hc, _, h2, h3, h4⟩ := h.op
  clear h h1 h2 h3
  go_enter Tryz.func15, Tryz.ntmps15
  go_wp2
  go_ret
  exact ⟨rfl, rfl⟩

def PHas (w : World) (bad : Prop) (r : Bool) (ev : Value) (e : Ending) (w' : World) : Prop :=
  (¬ bad ∧ e = .returned (.tuple #[.bool r, .nilIface]) ∧ Kp [] w w') ∨ (bad ∧ e = .returned (.tuple #[.bool false, ev]) ∧ Kp [] w w')

set_option maxHeartbeats 400000 in
theorem s_has {ea : Nat → Addr} {w : World} {b : Nat} {zs : List Int} {fp : List Nat} (G : Glob ea w) (h : SetAt w b zs fp) (ok : SetOk zs) (x : Int) :
    Calls Tryz.prog 87 #[.pointer (some ⟨b, 0, none⟩), .int .i64 x] w (PHas w (badID x) (zs.contains x) (errV ea 0)) := by
  obtain ⟨a, c, f, h1, hc, _, h2, h3, h4⟩ := h.op
  have hv := validID_any x w
  have he := G.err 0 (by omega)
  have hsr := search_row h2 ok x
  clear h h1 h2 h3 ok G
  by_cases hb : badID x
  · rw [show decide (0 ≤ x ∧ x ≤ 1048575) = false from decide_eq_false hb] at hv
    clear hsr
    go_enter Tryz.func87, Tryz.ntmps87
    go_wp2_with fail
    refine hv.mono ?_
    rintro e w2 ⟨rfl, h2⟩
    rw [h2]
    clear h2 w2
    go_wp2_with fail
    go_quiet (fail)
    go_wp2_with fail
    go_ret2
    exact .inr ⟨hb, rfl, Kp.dN _ _⟩
  · rw [show decide (0 ≤ x ∧ x ≤ 1048575) = true from decide_eq_true (Decidable.not_not.1 hb)] at hv
    generalize zs.contains x = r at *
    generalize zs.countP (· < x) = m at *
    go_enter Tryz.func87, Tryz.ntmps87
    go_wp2_with fail
    refine hv.mono ?_
    rintro e w2 ⟨rfl, h2⟩
    rw [h2]
    clear h2 w2
    go_wp2_with fail
    refine hsr.mono ?_
    rintro e w2 ⟨rfl, q, rfl⟩
    go_wp2_with fail
    go_ret2
    exact .inl ⟨hb, rfl, Kp.dN _ _⟩

def PAt (w : World) (bad : Prop) (ev : Value) (e : Ending) (w' : World) : Prop :=
  (¬ bad ∧ ∃ r : Int, e = .returned (.tuple #[.int .i64 r, .nilIface]) ∧ Kp [] w w') ∨ (bad ∧ e = .returned (.tuple #[.int .i64 0, ev]) ∧ Kp [] w w')

set_option maxHeartbeats 400000 in
theorem s_at {ea : Nat → Addr} {w : World} {b : Nat} {zs : List Int} {fp : List Nat} (G : Glob ea w) (h : SetAt w b zs fp) (ok : SetOk zs) (x : Int) :
    Calls Tryz.prog 88 #[.pointer (some ⟨b, 0, none⟩), .int .i64 x] w (PAt w (x < 0 ∨ x ≥ zs.length) (errV ea 4)) := by
  obtain ⟨a, c, f, h1, hc, _, h2, h3, h4⟩ := h.op
  have he := G.err 4 (by omega)
  have hl := ok.len
  clear h h1 h3 ok G
  by_cases h0 : x < 0
  · clear h2
    go_enter Tryz.func88, Tryz.ntmps88
    go_wp2_with fail
    go_quiet (fail)
    go_wp2_with fail
    go_ret2
    exact .inr ⟨.inl h0, rfl, Kp.dN _ _⟩
  · by_cases h1 : (zs.length : Int) ≤ x
    · clear h2
      go_enter Tryz.func88, Tryz.ntmps88
      go_wp2_with fail
      go_quiet (fail)
      go_wp2_with fail
      go_ret2
      exact .inr ⟨.inr h1, rfl, Kp.dN _ _⟩
    · have hx : x.toNat < zs.length := by omega
      obtain ⟨g, rfl, _, hcell, _⟩ := h2.get x.toNat hx
      generalize zs[x.toNat] = z at *
      clear h2
      go_enter Tryz.func88, Tryz.ntmps88
      go_wp2_with fail
      go_ret2
      exact .inl ⟨by omega, z, rfl, Kp.refl _ _⟩

set_option maxHeartbeats 400000 in
theorem s_clear {w : World} {b : Nat} {zs : List Int} {fp : List Nat} (h : SetAt w b zs fp) :
    Calls Tryz.prog 89 #[.pointer (some ⟨b, 0, none⟩)] w fun e w' => e = .returned (.tuple #[]) ∧ SetAt w' b [] [b] ∧ Kp fp w w' := by
  obtain ⟨a, c, f, h1, hc, hf, h2, h3, h4⟩ := h.op
  have hge := h.ge
  clear h h2 h3
  go_enter Tryz.func89, Tryz.ntmps89
  go_wp2
  go_end0
  exact ⟨rfl, SetAt.mk (h1.set 0 _) (.inl ⟨rfl, rfl, rfl⟩) (by simp) (fun x hx => hge x (by rw [h4]; simp at hx; simp [hx])), (Kp.refl _ _).setCell (p := ⟨b, 0, none⟩) (fun _ => by simp [h4]) _⟩
end Go.Proofs.Qxb6500745aGreatDoor
