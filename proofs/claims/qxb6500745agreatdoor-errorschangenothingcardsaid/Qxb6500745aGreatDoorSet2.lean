import Derived.Test.Qxb6500745aGreatDoorSet1
namespace Go.Proofs.Qxb6500745aGreatDoor
open Go.RowKit

def SMod (w : World) (b : Nat) (zs' : List Int) (fp : List Nat) (w' : World) : Prop := ∃ fp', SetAt w' b zs' fp' ∧ SetOk zs' ∧ (∀ x ∈ fp', x ∈ fp ∨ w.heap.size ≤ x) ∧ Kp fp w w'

theorem SMod.same {w w' : World} {b : Nat} {zs : List Int} {fp : List Nat} (h : SetAt w b zs fp) (ok : SetOk zs) (k : Kp [] w w') : SMod w b zs fp w' :=
  ⟨fp, h.kp k (fun _ _ e => by cases e), ok, fun _ h => .inl h, k.nil⟩

theorem slice_nil_iff {a : Option Addr} {n c : Nat} {zs : List Int} (ha : a ≠ none) (hz : zs ≠ []) : Value.slice a n c = .slice none 0 0 ↔ zs = [] :=
  ⟨fun h => by simp at h; exact absurd h.1 ha, fun h => absurd h hz⟩

set_option maxHeartbeats 400000 in

theorem shrink_any {w : World} {b : Nat} {zs : List Int} {f : List Nat} {u : Value} (a : Option Addr) (n c : Nat) (h1 : Blk w b 62 #[u]) (hr : IRow w (.slice a n c) zs f) (hn : n = zs.length) (ha : a ≠ none) (h8 : ∀ x ∈ b :: f, 8 ≤ x) (hl : zs.length ≤ 2097152) :
    Calls Tryz.prog 113 #[.pointer (some ⟨b, 0, none⟩), .slice a n c] w fun e w' => e = .returned (.tuple #[]) ∧ (∃ f', SetAt w' b zs f' ∧ ∀ x ∈ f', x ∈ b :: f) ∧ Kp [b] w w' := by
  have hcb : w.cell? ⟨b, 0, none⟩ = some u := by rw [h1.cell]; rfl
  have hfz := h1.frozen 0
  have hne := hr.ne h1 (by decide)
  by_cases h0 : zs = []
  · subst h0
    obtain rfl : n = 0 := by simpa using hn
    clear hl hr hn hne
    go_enter Tryz.func113, Tryz.ntmps113
    go_wp2
    go_end0
    exact ⟨rfl, ⟨[b], SetAt.mk (h1.set 0 _) (.inl ⟨rfl, rfl, rfl⟩) (by simp) (fun x hx => h8 x (by simp at hx; simp [hx])), by simp⟩, (Kp.refl _ _).setCell (p := ⟨b, 0, none⟩) (fun _ => by simp) _⟩
  · have hn0 : 0 < n := by
      rw [hn]; cases zs with
      | nil => exact absurd rfl h0
      | cons z zs => simp
    have hq : ((n : Int) == 0) = false := by simp; omega
    have HN : Hid (n = zs.length) := hn
    have hn2 : n ≤ 2097152 := by omega
    clear hn
    go_enter Tryz.func113, Tryz.ntmps113
    go_wp2
    go_end0
    exact ⟨rfl, ⟨b :: f, SetAt.mk (h1.set 0 _) (hr.kp ((Kp.refl [b] w).setCell (p := ⟨b, 0, none⟩) (fun _ => by simp) _) (fun x hx e => by simp at e; subst e; exact hne hx)) (slice_nil_iff ha h0) h8, fun x hx => hx⟩, (Kp.refl _ _).setCell (p := ⟨b, 0, none⟩) (fun _ => by simp) _⟩

def PMod2 (w : World) (b : Nat) (fp : List Nat) (bad : Prop) (ev : Value) (e : Ending) (w' : World) : Prop :=
  (¬ bad ∧ ∃ (r : Bool) (zs' : List Int), e = .returned (.tuple #[.bool r, .nilIface]) ∧ SMod w b zs' fp w') ∨ (bad ∧ e = .returned (.tuple #[.bool false, ev]) ∧ Kp [] w w')

set_option maxHeartbeats 1000000 in
theorem s_insert {ea : Nat → Addr} {w : World} {b : Nat} {zs : List Int} {fp : List Nat} (G : Glob ea w) (h : SetAt w b zs fp) (ok : SetOk zs) (x : Int) :
    Calls Tryz.prog 85 #[.pointer (some ⟨b, 0, none⟩), .int .i64 x] w (PMod2 w b fp (badID x) (errV ea 0)) := by
  have h0 := h
  obtain ⟨a, c, f, h1, hc, hfz, h2, h3, h4⟩ := h.op
  have hv := validID_any x w
  have he := G.err 0 (by omega)
  have hsr := search_row h2 ok x
  have h8 := h.ge
  have hl := ok.len
  clear h h3 G
  by_cases hb : badID x
  · rw [show decide (0 ≤ x ∧ x ≤ 1048575) = false from decide_eq_false hb] at hv
    clear hsr
    go_enter Tryz.func85, Tryz.ntmps85
    go_wp2_with fail
    refine hv.mono ?_
    rintro e w2 ⟨rfl, h2⟩
    rw [h2]
    clear h2 w2
    go_wp2_with fail
    go_quiet (fail)
    go_wp2_with fail
    go_ret2
    exact .inr ⟨hb, rfl, Kp.dN _ _⟩
  · rw [show decide (0 ≤ x ∧ x ≤ 1048575) = true from decide_eq_true (Decidable.not_not.1 hb)] at hv
    have hcp : zs.countP (· < x) ≤ zs.length := List.countP_le_length
    have hmem : zs.contains x = false → x ∉ zs := fun h => by simpa using h
    obtain ⟨m, hm⟩ : ∃ m, m = zs.countP (· < x) := ⟨_, rfl⟩
    obtain ⟨r, hr⟩ : ∃ r, r = zs.contains x := ⟨_, rfl⟩
    rw [← hm, ← hr] at hsr
    rw [← hm] at hcp
    rw [← hr] at hmem
    have HM : Hid (m = zs.countP (· < x)) := hm
    clear hm hr
    cases r with
    | true =>
      go_enter Tryz.func85, Tryz.ntmps85
      go_wp2_with fail
      refine hv.mono ?_
      rintro e w2 ⟨rfl, h2⟩
      rw [h2]
      clear h2 w2
      go_wp2_with fail
      refine hsr.mono ?_
      rintro e w2 ⟨rfl, q, rfl⟩
      go_wp2_with fail
      go_ret2
      exact .inl ⟨hb, _, zs, rfl, SMod.same h0 ok (Kp.dN _ _)⟩
    | false =>
      have hnm := hmem rfl
      have OKI : Hid (SetOk (zs.take m ++ [x] ++ zs.drop m)) := insert_ok ok (Decidable.not_not.1 hb) hnm m HM.out
      have HNE : Hid (zs.take m ++ [x] ++ zs.drop m ≠ []) := by
        show _ ≠ []
        simp
      clear hmem hnm
      go_enter Tryz.func85, Tryz.ntmps85
      go_wp2_with fail
      refine hv.mono ?_
      rintro e w2 ⟨rfl, h2⟩
      rw [h2]
      clear h2 w2
      go_wp2_with fail
      refine hsr.mono ?_
      rintro e w2 ⟨rfl, q, rfl⟩
      go_wp2_with fail
      have k1 : Kp [] w ((w.drewN q).alloc (.cells #[.int .i64 x] 3)) := (Kp.dN w q).alloc _
      have hins := insert_row (h2.kp k1 (by simp)) (Blk.new (w.drewN q) 3 #[.int .i64 x]) (fun e => by have := h2.lt _ e; simp at this) m hcp (by omega)
      have hbf : b ∉ f := h2.ne h1 (by decide)
      have hB1 := h1.kp k1 (by simp)
      have hfl := h2.lt
      generalize zs.take m ++ [x] ++ zs.drop m = zs' at *
      refine hins.mono ?_
      rintro e w3 ⟨a3, n3, c3, f3, rfl, hn3, hr3, hf3, k3, ha3⟩
      have hB3 := hB1.kp k3 hbf
      have d0 := hB3.cell 0
      have d1 := hB3.frozen 0
      simp at d0
      clear hins hB1 hn3
      go_wp2_with fail
      go_ret2
      have kk : Kp fp w w3 := k1.trans k3 (fun _ h => by cases h) (fun y hy _ => by rw [h4]; simp [hy])
      have hb3 := hr3.ne hB3 (by decide)
      refine .inl ⟨hb, _, zs', rfl, b :: f3, SetAt.mk (hB3.set 0 _) (hr3.kp ((Kp.refl [b] w3).setCell (p := ⟨b, 0, none⟩) (fun _ => by simp) _) (fun y hy e => by simp at e; subst e; exact hb3 hy)) (slice_nil_iff ha3 HNE.out) ?_, OKI.out, ?_, kk.setCell (p := ⟨b, 0, none⟩) (fun _ => by rw [h4]; simp) _⟩
      · intro y hy
        rcases List.mem_cons.1 hy with rfl | hy
        · exact h8 _ (by rw [h4]; simp)
        · rcases hf3 y hy with h' | h'
          · exact h8 y (by rw [h4]; simp [h'])
          · simp at h'; have := h8 b (by rw [h4]; simp); have := h1.lt; omega
      · intro y hy
        rcases List.mem_cons.1 hy with rfl | hy
        · exact .inl (by rw [h4]; simp)
        · rcases hf3 y hy with h' | h'
          · exact .inl (by rw [h4]; simp [h'])
          · exact .inr (by simp at h'; omega)

set_option maxHeartbeats 1000000 in
theorem s_remove {ea : Nat → Addr} {w : World} {b : Nat} {zs : List Int} {fp : List Nat} (G : Glob ea w) (h : SetAt w b zs fp) (ok : SetOk zs) (x : Int) :
    Calls Tryz.prog 86 #[.pointer (some ⟨b, 0, none⟩), .int .i64 x] w (PMod2 w b fp (badID x) (errV ea 0)) := by
  have h0 := h
  obtain ⟨a, c, f, h1, hc, hfz, h2, h3, h4⟩ := h.op
  have hv := validID_any x w
  have he := G.err 0 (by omega)
  have hsr := search_row h2 ok x
  have h8 := h.ge
  have hl := ok.len
  clear h h3 G
  by_cases hb : badID x
  · rw [show decide (0 ≤ x ∧ x ≤ 1048575) = false from decide_eq_false hb] at hv
    clear hsr
    go_enter Tryz.func86, Tryz.ntmps86
    go_wp2_with fail
    refine hv.mono ?_
    rintro e w2 ⟨rfl, h2⟩
    rw [h2]
    clear h2 w2
    go_wp2_with fail
    go_quiet (fail)
    go_wp2_with fail
    go_ret2
    exact .inr ⟨hb, rfl, Kp.dN _ _⟩
  · rw [show decide (0 ≤ x ∧ x ≤ 1048575) = true from decide_eq_true (Decidable.not_not.1 hb)] at hv
    have hcp : zs.contains x = true → zs.countP (· < x) < zs.length := fun h => by
      have hm : x ∈ zs := by simpa using h
      rcases Nat.lt_or_ge (zs.countP (· < x)) zs.length with h' | h'
      · exact h'
      · have : zs.countP (· < x) = zs.length := Nat.le_antisymm List.countP_le_length h'
        have := List.countP_eq_length.1 this x hm
        simp at this
    obtain ⟨m, hm⟩ : ∃ m, m = zs.countP (· < x) := ⟨_, rfl⟩
    obtain ⟨r, hr⟩ : ∃ r, r = zs.contains x := ⟨_, rfl⟩
    rw [← hm, ← hr] at hsr
    rw [← hm, ← hr] at hcp
    clear hm hr
    cases r with
    | false =>
      go_enter Tryz.func86, Tryz.ntmps86
      go_wp2_with fail
      refine hv.mono ?_
      rintro e w2 ⟨rfl, h2⟩
      rw [h2]
      clear h2 w2
      go_wp2_with fail
      refine hsr.mono ?_
      rintro e w2 ⟨rfl, q, rfl⟩
      go_wp2_with fail
      go_ret2
      exact .inl ⟨hb, _, zs, rfl, SMod.same h0 ok (Kp.dN _ _)⟩
    | true =>
      have hmlt := hcp rfl
      have OKI : Hid (SetOk (zs.take m ++ zs.drop (m + 1))) := delete_ok ok m (m + 1) (by omega)
      clear hcp
      go_enter Tryz.func86, Tryz.ntmps86
      go_wp2_with fail
      refine hv.mono ?_
      rintro e w2 ⟨rfl, h2⟩
      rw [h2]
      clear h2 w2
      go_wp2_with fail
      refine hsr.mono ?_
      rintro e w2 ⟨rfl, q, rfl⟩
      go_wp2_with fail
      have k1 : Kp [] w (w.drewN q) := Kp.dN w q
      have hdel := delete_row (h2.kp k1 (by simp)) (fun e => by rw [e] at hmlt; simp at hmlt) m (m + 1) (by omega) (by omega)
      rw [show ((m + 1 : Nat) : Int) = (m : Int) + 1 by omega] at hdel
      have hbf : b ∉ f := h2.ne h1 (by decide)
      have hB1 := h1.kp k1 (by simp)
      have hlen : (zs.take m ++ zs.drop (m + 1)).length ≤ 2097152 := by simp; omega
      generalize zs.take m ++ zs.drop (m + 1) = zs' at *
      refine hdel.mono ?_
      rintro e w3 ⟨a3, n3, c3, f3, rfl, hn3, hr3, hf3, k3, ha3⟩
      have hB3 := hB1.kp k3 hbf
      have h83 : ∀ y ∈ b :: f3, 8 ≤ y := by
        intro y hy
        rcases List.mem_cons.1 hy with rfl | hy
        · exact h8 _ (by rw [h4]; simp)
        · rcases hf3 y hy with h' | h'
          · exact h8 y (by rw [h4]; simp [h'])
          · simp at h'; have := h8 b (by rw [h4]; simp); have := h1.lt; omega
      have hsh := shrink_any a3 n3 c3 hB3 hr3 hn3 ha3 h83 hlen
      clear hdel hB1 hn3 hlen
      go_wp2_with fail
      refine hsh.mono ?_
      rintro e w4 ⟨rfl, ⟨f4, hS4, hf4⟩, k4⟩
      go_wp2_with fail
      go_ret2
      have kk : Kp fp w w3 := k1.trans k3 (fun _ h => by cases h) (fun y hy _ => by rw [h4]; simp [hy])
      refine .inl ⟨hb, _, zs', rfl, f4, hS4, OKI.out, ?_, kk.trans k4 (fun _ h _ => h) (fun y hy _ => by rw [h4]; simp at hy; simp [hy])⟩
      intro y hy
      rcases List.mem_cons.1 (hf4 y hy) with rfl | hy
      · exact .inl (by rw [h4]; simp)
      · rcases hf3 y hy with h' | h'
        · exact .inl (by rw [h4]; simp [h'])
        · exact .inr (by simpa using h')
end Go.Proofs.Qxb6500745aGreatDoor
